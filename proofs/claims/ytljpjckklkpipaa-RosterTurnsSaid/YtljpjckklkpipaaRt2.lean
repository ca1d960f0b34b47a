/- Walks for wapentakelaw07: a group's ends. -/
import Derived.Test.YtljpjckklkpipaaRt1
import Derived.Test.YtljpjckklkpipaaWd
namespace Go.Proofs.Ytljpjckklkpipaa.Rt
open Go.RowKit Wd
set_option maxRecDepth 100000
theorem info3 : (Try.prog.info? 3).map (fun i => (i.zero, i.size, i.bytes)) = some (some (.int .i64 0), 1, 8) := by kernel_rfl

theorem ends_group (w : World) :
    Calls Try.prog 13 #[.agg #[.int .i64 1, .int .i64 2, .int .i64 2], .int .i64 1, .func (.func 14) #[.int .i64 (-1)] #[]] w fun e w' => ∃ v, e = .returned v ∧ w'.ownsRow w.heap.size 3 1 v 4 [.int .i64 4, .int .i64 5, .int .i64 6, .int .i64 7] ∧ Below w.heap.size w w' := by
  obtain ⟨i0, hi, hz0, hz1, hz2⟩ := info_parts info3
  go_enter Try.func13, Try.ntmps13
  go_wp2_with (first | (go_at_call 6; refine (n_any 1 2 2 _ (by omega) (by omega) (by omega) (by omega) (by omega) (by omega)).mono ?_; rintro e w1 ⟨rfl, hb1⟩))
  have c10 : w1.cell? ⟨w.heap.size, 0, none⟩ = some (.int .i64 1) := (hb1.cell (p := ⟨w.heap.size, 0, none⟩) (by simp)).trans (by simp)
  have c11 : w1.cell? ⟨w.heap.size, 1, none⟩ = some (.int .i64 2) := (hb1.cell (p := ⟨w.heap.size, 1, none⟩) (by simp)).trans (by simp)
  have c12 : w1.cell? ⟨w.heap.size, 2, none⟩ = some (.int .i64 2) := (hb1.cell (p := ⟨w.heap.size, 2, none⟩) (by simp)).trans (by simp)
  have hl1 : w.heap.size + 1 ≤ w1.heap.size := by have := hb1.size; simpa using this
  have hB1 : Below (w.heap.size + 1) w1 w1 := Below.refl _ _
  have hW1 : Below w.heap.size w w1 := ((Below.refl _ w).alloc (Nat.le_refl _) _).trans (hb1.mono (by simp))
  clear hb1
  go_loopw [7, 8, 9, 10, 13] (fun v _ _ _ i wr => ∃ k : Nat, k ≤ 4 ∧ i = .int .i64 k ∧ wr.ownsRow (w.heap.size + 1) 3 1 v k ((List.range k).map fun (j : Nat) => .int .i64 (4 + (j : Int))) ∧ Below (w.heap.size + 1) w1 wr)
    (fun _ _ _ _ i _ => 4 - (intOf i).toNat)
  case atStart => exact ⟨0, by omega, rfl, World.ownsRow_nil _ _ _ _, hB1⟩
  case round =>
    obtain ⟨k, hk, rfl, hown, hnx⟩ := hrel
    clear hB1
    by_cases hlt : k < 4
    · have d10 : wr.cell? ⟨w.heap.size, 0, none⟩ = some (.int .i64 1) := (hnx.cell (p := ⟨w.heap.size, 0, none⟩) (by simp)).trans c10
      have d11 : wr.cell? ⟨w.heap.size, 1, none⟩ = some (.int .i64 2) := (hnx.cell (p := ⟨w.heap.size, 1, none⟩) (by simp)).trans c11
      have d12 : wr.cell? ⟨w.heap.size, 2, none⟩ = some (.int .i64 2) := (hnx.cell (p := ⟨w.heap.size, 2, none⟩) (by simp)).trans c12
      clear c10 c11 c12
      go_wp2_with (first
        | (go_at_call 8; refine (end_two _ _ (by omega) (by omega)).mono ?_; rintro e w2 ⟨rfl, hb2⟩)
        | (go_at_call 14; refine (other_any _ _ (by omega) (by omega)).mono ?_; rintro e w3 ⟨rfl, hb3⟩; have hown3 := own_below (own_below hown hb2) hb3)
        | (at_builtin; refine wpList_append_own _ rfl _ _ 36 rfl (w.heap.size + 1) 3 i0 (.int .i64 0) 1 8 Try.underlying36 hi hz0 hz1 hz2 rfl (by decide) _ _ _ rfl (hown3.alloc _) ⟨w3.heap.size, 0, none⟩ 1 1 [.int .i64 (4 + k)] rfl rfl (cell_one_new _ _ _) (by simp [Value.oneCell']) (by unfold maxLen; omega) (by omega) (by have := hnx.size; have := hb2.size; have := hb3.size; simp; omega) ?_; intro v' w4 hown4 hg4 _; have hs2 := hb2.size; have hs3 := hb3.size; have hsn := hnx.size; have hB4 : Below (w.heap.size + 1) w1 w4 := below_grown ((((hnx.trans (hb2.mono (by omega))).trans (hb3.mono (by omega)))).alloc (by omega) _) (hown3.alloc _) hg4 (Nat.le_refl _) (by simp; omega)))
      go_roundw
      case rel => exact ⟨k + 1, by omega, by go_num, by rw [List.range_succ, List.map_append]; exact hown4, hB4⟩
      case measure => simp [intOf]; omega
    · obtain rfl : k = 4 := by omega
      go_wp2
      go_ret
      exact ⟨_, rfl, own_base hown (by omega), hW1.trans (hnx.mono (by omega))⟩
theorem group_one (w : World) :
    Calls Try.prog 11 #[.agg #[.int .i64 1, .int .i64 2, .int .i64 2], .int .i64 1] w fun e w' => ∃ v, e = .returned v ∧ w'.ownsRow w.heap.size 3 1 v 4 [.int .i64 4, .int .i64 5, .int .i64 6, .int .i64 7] ∧ Below w.heap.size w w' := by
  go_enter Try.func11, Try.ntmps11
  go_wp2_with (first | (go_at_call 13; refine (ends_group _).mono ?_; rintro e w1 ⟨v, rfl, hown, hb1⟩))
  go_ret
  exact ⟨_, rfl, own_base hown (by simp), ((Below.refl _ w).alloc (Nat.le_refl _) _).trans (hb1.mono (by simp))⟩

theorem ints_same (a ao b bo : Nat) (c d : Nat) (xs : List Int) (w : World) (hx : xs.length ≤ 100) (ha : ∀ j u, xs[j]? = some u → w.cell? ⟨a, ao + j, none⟩ = some (.int .i64 u)) (hb : ∀ j u, xs[j]? = some u → w.cell? ⟨b, bo + j, none⟩ = some (.int .i64 u)) :
    Calls Try.prog 10 #[.slice (some ⟨a, ao, none⟩) xs.length c, .slice (some ⟨b, bo, none⟩) xs.length d] w fun e w' => e = .returned (.bool true) ∧ Below w.heap.size w w' := by
  go_enter Try.func10, Try.ntmps10
  go_wp2_with fail
  go_loopw [5, 8] (fun _ i wr => ∃ k m : Nat, k ≤ xs.length ∧ i = .int .i64 k ∧ wr = w.drewN m) (fun _ i _ => xs.length - (intOf i).toNat)
  case atStart => exact ⟨0, 0, by omega, rfl, rfl⟩
  case round =>
    obtain ⟨k, m, hk, rfl, rfl⟩ := hrel
    by_cases hlt : k < xs.length
    · have c1 := ha k xs[k] (List.getElem?_eq_getElem hlt)
      have c2 := hb k xs[k] (List.getElem?_eq_getElem hlt)
      have hi0 : (0 : Int) ≤ (k : Int) := by omega
      have hi1 : (k : Int) < (xs.length : Int) := by omega
      have hd : decide ((xs.length : Int) ≤ (k : Int)) = false := by simp; omega
      have hd2 : decide (xs.length ≤ k) = false := by simp; omega
      clear ha hb
      go_wp2_with fail
      go_quiet (fail)
      go_wp2_with fail
      go_roundw
      case rel => exact ⟨k + 1, _, by omega, by go_num, rfl⟩
      case measure => simp [intOf]; omega
    · obtain rfl : k = xs.length := by omega
      clear ha hb
      go_wp2_with fail
      go_ret
      exact ⟨rfl, rfl, rfl, rfl, Nat.le_refl _, fun _ _ => rfl⟩

theorem two_any (w : World) :
    Calls Try.prog 5 #[] w fun e w' => e = .returned (.bool true) ∧ Below w.heap.size w w' := by
  have e8 : ([.int .i64 4, .int .i64 5, .int .i64 6, .int .i64 7] : List Value).length = 4 := rfl
  go_enter Try.func5, Try.ntmps5
  go_wp2_with (first
    | (go_at_call 8; refine (end_client _).mono ?_; rintro e w1 ⟨rfl, hb1⟩; have hS1 := kept3 (W := w) (b := w.heap.size) (x := .int .i64 1) (y := .int .i64 2) (z := .int .i64 2) hb1 ⟨by simp, by simp, by simp, by simp, (Below.refl _ _).alloc (Nat.le_refl _) _⟩)
    | (go_at_call 9; refine (ends_two _).mono ?_; rintro e w2 ⟨rfl, hb2⟩; have hS2 := kept3 hb2 hS1)
    | (go_at_call 6; refine (n_any 1 2 2 _ (by omega) (by omega) (by omega) (by omega) (by omega) (by omega)).mono ?_; rintro e w3 ⟨rfl, hb3⟩; have hS3 := kept3 hb3 hS2)
    | (go_at_call 11; refine (group_one _).mono ?_; rintro e w4 ⟨v, rfl, hown, hb4⟩; have hS4 := kept3 hb4 hS3; obtain ⟨g, cap, rfl, _hg, hlt⟩ := hown.form (by omega); have hcl := hown.cells (g := g) rfl)
    | (go_at_call 10; go_must (refine (ints_same g 0 _ 0 _ _ [4, 5, 6, 7] _ (by simp) ?_ ?_).mono ?_)))
  · intro j u hj
    rw [World.cell?_alloc_lt _ _ _ (by exact hlt)]
    have h := hcl j (.int .i64 u) (by
      match j, hj with
      | 0, hj => simpa using hj
      | 1, hj => simpa using hj
      | 2, hj => simpa using hj
      | 3, hj => simpa using hj)
    simpa [Addr.add_lit] using h
  · intro j u hj
    match j, hj with
    | 0, hj => simp at hj; subst hj; simp
    | 1, hj => simp at hj; subst hj; simp
    | 2, hj => simp at hj; subst hj; simp
    | 3, hj => simp at hj; subst hj; simp
  · rintro e w5 ⟨rfl, hb5⟩
    have hB5 : Below w.heap.size w w5 := (hS4.2.2.2.2.alloc (Nat.le_of_lt hS4.2.2.2.1) _).trans (hb5.mono (by have := hS4.2.2.2.1; simp; omega))
    clear hcl hS1 hS2 hS3 hS4 hb1 hb2 hb3 hb4 hb5
    go_wp2
    go_ret
    exact ⟨rfl, hB5⟩
end Go.Proofs.Ytljpjckklkpipaa.Rt
