/- table.Check. -/
import Derived.Test.YtljpjckklkpipaaDoorProg
import Derived.Test.YtljpjckklkpipaaDoorWd
namespace Go.Proofs.YtljpjckklkpipaaDoor.Ck
open Go.RowKit Wd
set_option maxRecDepth 100000
theorem value_any (s : ByteArray) (w : World) :
    Calls Tryd.prog 96 #[.string s] w fun e w' => e = .returned (.bool (decide (s.size ≤ 64))) ∧ w = w' := by
  go_enter Tryd.func96, Tryd.ntmps96
  go_wp2
  go_ret
  exact ⟨by simp; try omega, rfl⟩
/-- what is wrong with an operation -/
def chk (k : Int) (key v old : ByteArray) : Int :=
  if 1 ≤ k ∧ k ≤ 5 then
    (if key.toList.isEmpty = true ∨ 16 < key.size ∨ 64 < v.size ∨ 64 < old.size then 130
     else if (v.toList.isEmpty = false ∧ (k = 1 ∨ k = 4)) ∨ (old.toList.isEmpty = false ∧ ¬ k = 5) then 4 else 0)
  else 1
theorem ret_chk {n m : Int} (h : n = m) : Ending.returned (.int .i64 n) = Ending.returned (.int .i64 m) := by rw [h]
theorem check_any (k : Int) (key v old : ByteArray) (w : World) :
    Calls Tryd.prog 35 #[.agg #[.int .i64 k, .string key, .string v, .string old]] w fun e w' => e = .returned (.int .i64 (chk k key v old)) ∧ Below w.heap.size w w' := by
  have hB : ∀ o, Below w.heap.size w (w.alloc o) := fun o => (Below.refl _ w).alloc (Nat.le_refl _) o
  have HB := Lib.hid hB
  clear hB
  go_enter Tryd.func35, Tryd.ntmps35
  go_wp2_with (go_at_call 96; refine (value_any _ _).mono ?_; rintro e w1 ⟨rfl, rfl⟩)
  all_goals go_ret
  all_goals refine ⟨ret_chk (m := chk k key v old) ?_, HB.out _⟩
  all_goals unfold chk
  all_goals first
    | (simp_all; done)
    | (simp_all; omega)
end Go.Proofs.YtljpjckklkpipaaDoor.Ck
