/- The walk of wapentakelaw07.RosterTurns. -/
import Derived.Test.YtljpjckklkpipaaRt2
namespace Go.Proofs.Ytljpjckklkpipaa.Rt
open Go.RowKit Wd
set_option maxRecDepth 100000

theorem check_bad (f g c : Int) (w : World) (h : ¬ (0 ≤ f ∧ f ≤ 3 ∧ 1 ≤ g ∧ g ≤ 4 ∧ 1 ≤ c ∧ c ≤ 8)) :
    Calls Try.prog 4 #[.agg #[.int .i64 f, .int .i64 g, .int .i64 c]] w fun e w' => e = .returned (.int .i64 1) ∧ Below w.heap.size w w' := by
  rcases (show f < 0 ∨ (0 ≤ f ∧ 3 < f) ∨ (0 ≤ f ∧ f ≤ 3 ∧ g < 1) ∨ (0 ≤ f ∧ f ≤ 3 ∧ 1 ≤ g ∧ 4 < g) ∨ (0 ≤ f ∧ f ≤ 3 ∧ 1 ≤ g ∧ g ≤ 4 ∧ c < 1) ∨ (0 ≤ f ∧ f ≤ 3 ∧ 1 ≤ g ∧ g ≤ 4 ∧ 1 ≤ c ∧ 8 < c) by omega) with h1 | ⟨h1, h2⟩ | ⟨h1, h2, h3⟩ | ⟨h1, h2, h3, h4⟩ | ⟨h1, h2, h3, h4, h5⟩ | ⟨h1, h2, h3, h4, h5, h6⟩
  all_goals
    clear h
    go_enter Try.func4, Try.ntmps4
    go_wp2
    go_ret
    exact ⟨rfl, by repeat (first | exact Below.refl _ _ | apply Below.drew | refine Below.alloc ?_ (by first | (simp; done) | (simp; omega)) _)⟩
theorem law_out (f g c v : Int) (w : World) (h : ¬ (0 ≤ f ∧ f ≤ 3 ∧ 1 ≤ g ∧ g ≤ 4 ∧ 1 ≤ c ∧ c ≤ 8) ∨ (0 ≤ f ∧ f ≤ 3 ∧ 1 ≤ g ∧ g ≤ 4 ∧ 1 ≤ c ∧ c ≤ 8) ∧ (v < 0 ∨ (0 ≤ v ∧ 549755813888 < v))) :
    Calls Try.prog 3 #[.agg #[.int .i64 f, .int .i64 g, .int .i64 c], .int .i64 v] w fun e w' => e = .returned (.bool true) ∧ Below w.heap.size w w' := by
  have hB := (Below.refl w.heap.size w).alloc (Nat.le_refl _) (.cells #[.int .i64 f, .int .i64 g, .int .i64 c] 23)
  rcases h with h | ⟨⟨h1, h2, h3, h4, h5, h6⟩, h | ⟨h7, h⟩⟩
  · have hc := fun w => check_bad f g c w h
    clear h
    go_enter Try.func3, Try.ntmps3
    go_wp2_with (first
      | (go_at_call 4; refine (hc _).mono ?_; rintro e w1 ⟨rfl, hb1⟩)
      | (go_at_call 5; refine (two_any _).mono ?_; rintro e w2 ⟨rfl, hb2⟩))
    go_ret
    exact ⟨rfl, (hB.trans (hb1.mono (by simp))).trans (hb2.mono (by have := hb1.size; simp at this; omega))⟩
  all_goals
    go_enter Try.func3, Try.ntmps3
    go_wp2_with (first
      | (go_at_call 4; refine (check_any f g c _ h1 h2 h3 h4 h5 h6).mono ?_; rintro e w1 ⟨rfl, hb1⟩)
      | (go_at_call 5; refine (two_any _).mono ?_; rintro e w2 ⟨rfl, hb2⟩))
    go_ret
    exact ⟨rfl, (hB.trans (hb1.mono (by simp))).trans (hb2.mono (by have := hb1.size; simp at this; omega))⟩

theorem primary_q (f g c v q : Int) (w : World) (hf0 : 0 ≤ f) (hf : f ≤ 3) (hg0 : 1 ≤ g) (hg : g ≤ 4) (hc0 : 1 ≤ c) (hc : c ≤ 8) (hv0 : 0 ≤ v) (hv : v ≤ 1099511627776) (hq : v % (3 * f + 1) = q) :
    Calls Try.prog 7 #[.agg #[.int .i64 f, .int .i64 g, .int .i64 c], .int .i64 v] w fun e w' => e = .returned (.tuple #[.int .i64 q, .int .i64 0]) ∧ Below w.heap.size w w' := by
  subst hq
  exact primary_any f g c v w hf0 hf hg0 hg hc0 hc hv0 hv

/-- which places are marked behind k rounds -/
def marked (v n : Int) (k : Nat) (p : Nat) : Bool := (List.range k).any fun j => (v + (j : Int)) % n == (p : Int)
theorem marked_not (v n : Int) (k : Nat) (hk : (k : Int) < n) (q : Nat) (hq : (v + (k : Int)) % n = (q : Int)) : marked v n k q = false := by
  unfold marked
  rw [List.any_eq_false]
  intro j hj
  have hj := List.mem_range.1 hj
  simp only [beq_iff_eq]
  intro h
  have h1 : (v + (k : Int)) % n = (v + (j : Int)) % n := by rw [hq, h]
  have h2 := Int.emod_emod_of_dvd (v + k - (v + j)) (Int.dvd_refl n)
  have h3 : (v + (k : Int) - (v + (j : Int))) % n = 0 := by rw [Int.sub_emod, h1]; simp
  have h4 : (v + (k : Int) - (v + (j : Int))) = (k : Int) - j := by omega
  rw [h4, Int.emod_eq_of_lt (by omega) (by omega)] at h3
  omega
theorem marked_succ (v n : Int) (k : Nat) (q p : Nat) (hq : (v + (k : Int)) % n = (q : Int)) : marked v n (k + 1) p = if q = p then true else marked v n k p := by
  unfold marked
  rw [List.range_succ, List.any_append]
  by_cases h : q = p
  · subst h; simp [hq]
  · rw [if_neg h]; simp [hq]; omega
/-- what a round keeps -/
structure St (w : World) (f g c v : Int) (b : Nat) (k : Nat) (wr : World) : Prop where
  c0 : wr.cell? ⟨w.heap.size, 0, none⟩ = some (.int .i64 f)
  c1 : wr.cell? ⟨w.heap.size, 1, none⟩ = some (.int .i64 g)
  c2 : wr.cell? ⟨w.heap.size, 2, none⟩ = some (.int .i64 c)
  lt : w.heap.size < b
  blt : b < wr.heap.size
  row : ∀ p, p < 10 → wr.cell? ⟨b, p, none⟩ = some (.bool (marked v (3 * f + 1) k p))
  free : ∀ p, wr.frozen? ⟨b, p, none⟩ = false
  below : Below w.heap.size w wr
theorem St.keep {w : World} {f g c v : Int} {b k : Nat} {w1 w2 : World} (h : St w f g c v b k w1) (hb : Below w1.heap.size w1 w2) : St w f g c v b k w2 where
  c0 := (hb.cell (p := ⟨w.heap.size, 0, none⟩) (Nat.lt_trans h.lt h.blt)).trans h.c0
  c1 := (hb.cell (p := ⟨w.heap.size, 1, none⟩) (Nat.lt_trans h.lt h.blt)).trans h.c1
  c2 := (hb.cell (p := ⟨w.heap.size, 2, none⟩) (Nat.lt_trans h.lt h.blt)).trans h.c2
  lt := h.lt
  blt := Nat.lt_of_lt_of_le h.blt hb.size
  row p hp := (hb.cell (p := ⟨b, p, none⟩) h.blt).trans (h.row p hp)
  free p := (hb.frozen (p := ⟨b, p, none⟩) h.blt).trans (h.free p)
  below := h.below.trans (hb.mono (Nat.le_of_lt (Nat.lt_trans h.lt h.blt)))
theorem St.mark {w : World} {f g c v : Int} {b k q : Nat} {w1 : World} (h : St w f g c v b k w1) (hq : (v + (k : Int)) % (3 * f + 1) = (q : Int)) : St w f g c v b (k + 1) (w1.setCell ⟨b, q, none⟩ (.bool true)) where
  c0 := (World.cell?_setCell_other w1 ⟨b, q, none⟩ ⟨w.heap.size, 0, none⟩ _ (fun e => by have := h.lt; injection e; omega)).trans h.c0
  c1 := (World.cell?_setCell_other w1 ⟨b, q, none⟩ ⟨w.heap.size, 1, none⟩ _ (fun e => by have := h.lt; injection e; omega)).trans h.c1
  c2 := (World.cell?_setCell_other w1 ⟨b, q, none⟩ ⟨w.heap.size, 2, none⟩ _ (fun e => by have := h.lt; injection e; omega)).trans h.c2
  lt := h.lt
  blt := by simpa [World.setCell] using h.blt
  row p hp := by
    rw [marked_succ v _ k q p hq]
    by_cases e : q = p
    · subst e
      rw [if_pos rfl]
      exact World.cell?_setCell_same' _ _ _ (by rw [h.row q hp]; rfl)
    · rw [if_neg e]
      exact (World.cell?_setCell_other w1 ⟨b, q, none⟩ ⟨b, p, none⟩ _ (fun e' => by injection e'; omega)).trans (h.row p hp)
  free p := by rw [World.frozen?_setCell]; exact h.free p
  below := h.below.setCell (p := ⟨b, q, none⟩) (Nat.le_of_lt h.lt) _

theorem law_in (f g c v : Int) (w : World) (h1 : 0 ≤ f) (h2 : f ≤ 3) (h3 : 1 ≤ g) (h4 : g ≤ 4) (h5 : 1 ≤ c) (h6 : c ≤ 8) (h7 : 0 ≤ v) (h8 : v ≤ 549755813888) :
    Calls Try.prog 3 #[.agg #[.int .i64 f, .int .i64 g, .int .i64 c], .int .i64 v] w fun e w' => e = .returned (.bool true) ∧ Below w.heap.size w w' := by
  have hB := (Below.refl w.heap.size w).alloc (Nat.le_refl _) (.cells #[.int .i64 f, .int .i64 g, .int .i64 c] 23)
  go_enter Try.func3, Try.ntmps3
  go_wp2_with (first
    | (go_at_call 4; refine (check_any f g c _ h1 h2 h3 h4 h5 h6).mono ?_; rintro e w1 ⟨rfl, hb1⟩))
  have hs0 : St w f g c v w1.heap.size 0 (w1.alloc (.cells #[.bool false, .bool false, .bool false, .bool false, .bool false, .bool false, .bool false, .bool false, .bool false, .bool false] 27)) := by
    have hz : w.heap.size < w1.heap.size := by have := hb1.size; simp at this; omega
    refine ⟨?_, ?_, ?_, hz, by simp, ?_, ?_, ?_⟩
    · rw [World.cell?_alloc_lt _ _ _ (by exact hz)]; exact (hb1.cell (p := ⟨w.heap.size, 0, none⟩) (by simp)).trans (by simp)
    · rw [World.cell?_alloc_lt _ _ _ (by exact hz)]; exact (hb1.cell (p := ⟨w.heap.size, 1, none⟩) (by simp)).trans (by simp)
    · rw [World.cell?_alloc_lt _ _ _ (by exact hz)]; exact (hb1.cell (p := ⟨w.heap.size, 2, none⟩) (by simp)).trans (by simp)
    · intro p hp
      match p, hp with
      | 0, _ => simp [marked]
      | 1, _ => simp [marked]
      | 2, _ => simp [marked]
      | 3, _ => simp [marked]
      | 4, _ => simp [marked]
      | 5, _ => simp [marked]
      | 6, _ => simp [marked]
      | 7, _ => simp [marked]
      | 8, _ => simp [marked]
      | 9, _ => simp [marked]
      | n + 10, h => omega
    · intro p; simp
    · exact (hB.trans (hb1.mono (by simp))).alloc (Nat.le_of_lt hz) _
  generalize w1.alloc (.cells #[.bool false, .bool false, .bool false, .bool false, .bool false, .bool false, .bool false, .bool false, .bool false, .bool false] 27) = w2 at hs0 ⊢
  generalize w1.heap.size = b at hs0 ⊢
  clear hb1 hB w1
  go_loopw [6, 7, 8] (fun i _ _ wr => ∃ k : Nat, (k : Int) ≤ 3 * f + 1 ∧ i = .int .i64 k ∧ St w f g c v b k wr) (fun i _ _ _ => 10 - (intOf i).toNat)
  case atStart => exact ⟨0, by omega, rfl, hs0⟩
  case round =>
    obtain ⟨k, hk, rfl, hs⟩ := hrel
    clear hs0
    by_cases hlt : (k : Int) < 3 * f + 1
    · obtain ⟨q, hq⟩ : ∃ q : Nat, (v + (k : Int)) % (3 * f + 1) = (q : Int) := ⟨((v + (k : Int)) % (3 * f + 1)).toNat, by have := Int.emod_nonneg (v + (k : Int)) (show (3 * f + 1) ≠ 0 by omega); omega⟩
      have hqn : (q : Int) < 3 * f + 1 := by have := Int.emod_lt_of_pos (v + (k : Int)) (show 0 < 3 * f + 1 by omega); omega
      have hm := marked_not v (3 * f + 1) k hlt q hq
      have HQ := Lib.hid hq
      have HM := Lib.hid hm
      clear hq hm
      have e0 := hs.c0
      have e1 := hs.c1
      have e2 := hs.c2
      go_wp2_with (first
        | (go_at_call 6; refine (n_any f g c _ h1 h2 h3 h4 h5 h6).mono ?_; rintro e w3 ⟨rfl, hb3⟩; have hs3 := St.keep (by assumption) hb3; have e0 := hs3.c0; have e1 := hs3.c1; have e2 := hs3.c2; have e3 := (hs3.row q (by omega)).trans (by rw [HM.out]); have e4 := hs3.free q)
        | (go_at_call 7; refine (primary_q f g c _ q _ h1 h2 h3 h4 h5 h6 (by omega) (by omega) HQ.out).mono ?_; rintro e w4 ⟨rfl, hb4⟩; have hs4 := St.keep (by assumption) hb4; have e0 := hs4.c0; have e1 := hs4.c1; have e2 := hs4.c2))
      go_roundw
      case rel => exact ⟨k + 1, by omega, by go_num, hs3.mark HQ.out⟩
      case measure => simp [intOf]; omega
    · have e0 := hs.c0
      have e1 := hs.c1
      have e2 := hs.c2
      go_wp2_with (first
        | (go_at_call 6; refine (n_any f g c _ h1 h2 h3 h4 h5 h6).mono ?_; rintro e w3 ⟨rfl, hb3⟩)
        | (go_at_call 5; refine (two_any _).mono ?_; rintro e w4 ⟨rfl, hb4⟩))
      go_ret
      have hs3 := hs.keep hb3
      have hs4 := hs3.keep hb4
      exact ⟨rfl, hs4.below⟩
end Go.Proofs.Ytljpjckklkpipaa.Rt
