/- A disk that nothing ails: what its operations do. No condition. -/
import Derived.Test.YtajheglnhfjodaaDiskI
set_option maxRecDepth 10000
namespace Go.Proofs.Ytajheglnhfjodaa
set_option linter.unusedVariables false
open Go.RowKit

def k0 (room calls : Int) : Dk := ⟨room, calls, false, 0, 0, false⟩
section
variable {r c : Int} {T : PT} {s t l : List UInt8} {f : Fl}
theorem k0_call : (k0 r c).call = (0, k0 r (c + 1)) := rfl
theorem k0_create (hs : nameOk s) (hf : ¬ (tfind T s = none ∧ 64 ≤ T.length)) : DS.create ⟨k0 r c, T⟩ s = (0, ⟨k0 r (c + 1), tset T s ⟨[], 0⟩⟩) := by
  unfold DS.create
  rw [k0_call, if_neg (by simp), if_neg (not_not_intro hs), if_neg hf]
theorem k0_create_full (hs : nameOk s) (h1 : tfind T s = none) (h2 : 64 ≤ T.length) : DS.create ⟨k0 r c, T⟩ s = (2, ⟨k0 r (c + 1), T⟩) := by
  unfold DS.create
  rw [k0_call, if_neg (by simp), if_neg (not_not_intro hs), if_pos ⟨h1, h2⟩]
theorem k0_append (hs : nameOk s) (hf : tfind T s = some f) (hr : (used T : Int) + l.length ≤ r) : DS.append ⟨k0 r c, T⟩ s l = (0, ⟨k0 r (c + 1), tset T s ⟨f.b ++ l, f.sure⟩⟩) := by
  unfold DS.append
  rw [k0_call, if_neg (by simp), if_neg (not_not_intro hs)]
  simp only
  rw [hf]
  unfold DS.put
  exact if_neg (Int.not_lt.2 hr)
theorem k0_append_full (hs : nameOk s) (hf : tfind T s = some f) (hr : r < (used T : Int) + l.length) : DS.append ⟨k0 r c, T⟩ s l = (18, ⟨k0 r (c + 1), T⟩) := by
  unfold DS.append
  rw [k0_call, if_neg (by simp), if_neg (not_not_intro hs)]
  simp only
  rw [hf]
  unfold DS.put
  exact if_pos hr
theorem k0_sync (hs : nameOk s) (hf : tfind T s = some f) : DS.sync ⟨k0 r c, T⟩ s = (0, ⟨k0 r (c + 1), tset T s ⟨f.b, f.b.length⟩⟩) := by
  unfold DS.sync
  rw [k0_call, if_neg (by simp), if_neg (not_not_intro hs)]
  simp only
  rw [hf]
theorem k0_rename (hs : nameOk s) (ht : nameOk t) (hf : tfind T s = some f) : DS.rename ⟨k0 r c, T⟩ s t = (0, ⟨k0 r (c + 1), tset (tdel T s) t f⟩) := by
  unfold DS.rename
  rw [k0_call, if_neg (by simp), if_neg (not_not_intro ⟨hs, ht⟩)]
  simp only
  rw [hf]
theorem k0_remove (hs : nameOk s) (hf : tfind T s = some f) : DS.remove ⟨k0 r c, T⟩ s = (0, ⟨k0 r (c + 1), tdel T s⟩) := by
  unfold DS.remove
  rw [k0_call, if_neg (by simp), if_neg (not_not_intro hs)]
  simp only
  rw [hf]
end
theorem new_k0 {room : Int} (h : 0 ≤ room) (h2 : room ≤ 16777216) : DS.new room = ⟨k0 room 0, []⟩ := by
  unfold DS.new Dk.new k0
  rw [show max 0 (min room 16777216) = room by omega]
end Go.Proofs.Ytajheglnhfjodaa
