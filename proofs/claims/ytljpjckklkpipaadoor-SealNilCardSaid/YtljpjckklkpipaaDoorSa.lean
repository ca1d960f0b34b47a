/- Walks of package seal: which parties there are, and their names. -/
import Derived.Test.YtljpjckklkpipaaDoorPk
import Derived.Lib.ItoaLen
import Derived.Great.BuildSlice
namespace Go.Proofs.YtljpjckklkpipaaDoor.Sa
open Go.RowKit Wd Bld Pk
set_option maxRecDepth 100000
set_option linter.unusedSimpArgs false

def isP (g n : Int) : Bool := decide (-1 ≤ g) && decide (g ≤ 4) && decide (0 ≤ n) && decide (n ≤ 15)
theorem isP_true {g n : Int} (h : isP g n = true) : -1 ≤ g ∧ g ≤ 4 ∧ 0 ≤ n ∧ n ≤ 15 := by
  unfold isP at h
  simpa [and_assoc] using h
/-- a party's name -/
def nameB (g n : Int) : ByteArray := packB [numB g, numB n]
theorem is_any (g n : Int) (w : World) :
    Calls Tryd.prog 119 #[.agg #[.int .i64 g, .int .i64 n]] w fun e w' => e = .returned (.bool (isP g n)) ∧ Below w.heap.size w w' := by
  have hp : isP g n = (decide (-1 ≤ g) && decide (g ≤ 4) && decide (0 ≤ n) && decide (n ≤ 15)) := rfl
  have HP := Lib.hid hp
  clear hp
  go_enter Tryd.func119, Tryd.ntmps119
  by_cases h1 : -1 ≤ g
  · by_cases h2 : g ≤ 4
    · by_cases h3 : 0 ≤ n
      · by_cases h4 : n ≤ 15
        · go_wp2
          go_ret
          exact ⟨by rw [HP.out]; first | (simp [h1, h2, h3, h4]; done) | (simp; omega), by repeat (first | exact Below.refl _ _ | apply Below.drew | refine Below.alloc ?_ (by first | (simp; done) | (simp; omega)) _)⟩
        · go_wp2
          go_ret
          exact ⟨by rw [HP.out]; first | (simp [h1, h2, h3, h4]; done) | (simp; omega), by repeat (first | exact Below.refl _ _ | apply Below.drew | refine Below.alloc ?_ (by first | (simp; done) | (simp; omega)) _)⟩
      · go_wp2
        go_ret
        exact ⟨by rw [HP.out]; first | (simp [h1, h2, h3]; done) | (simp; omega), by repeat (first | exact Below.refl _ _ | apply Below.drew | refine Below.alloc ?_ (by first | (simp; done) | (simp; omega)) _)⟩
    · go_wp2
      go_ret
      exact ⟨by rw [HP.out]; first | (simp [h1, h2]; done) | (simp; omega), by repeat (first | exact Below.refl _ _ | apply Below.drew | refine Below.alloc ?_ (by first | (simp; done) | (simp; omega)) _)⟩
  · go_wp2
    go_ret
    exact ⟨by rw [HP.out]; first | (simp [h1]; done) | (simp; omega), by repeat (first | exact Below.refl _ _ | apply Below.drew | refine Below.alloc ?_ (by first | (simp; done) | (simp; omega)) _)⟩
theorem ref_is_any (g n : Int) (w : World) :
    Calls Tryd.prog 64 #[.agg #[.int .i64 g, .int .i64 n]] w fun e w' => e = .returned (.bool (isP g n)) ∧ Below w.heap.size w w' := by
  have hp : isP g n = (decide (-1 ≤ g) && decide (g ≤ 4) && decide (0 ≤ n) && decide (n ≤ 15)) := rfl
  have HP := Lib.hid hp
  clear hp
  go_enter Tryd.func64, Tryd.ntmps64
  by_cases h1 : -1 ≤ g
  · by_cases h2 : g ≤ 4
    · by_cases h3 : 0 ≤ n
      · by_cases h4 : n ≤ 15
        · go_wp2
          go_ret
          exact ⟨by rw [HP.out]; first | (simp [h1, h2, h3, h4]; done) | (simp; omega), by repeat (first | exact Below.refl _ _ | apply Below.drew | refine Below.alloc ?_ (by first | (simp; done) | (simp; omega)) _)⟩
        · go_wp2
          go_ret
          exact ⟨by rw [HP.out]; first | (simp [h1, h2, h3, h4]; done) | (simp; omega), by repeat (first | exact Below.refl _ _ | apply Below.drew | refine Below.alloc ?_ (by first | (simp; done) | (simp; omega)) _)⟩
      · go_wp2
        go_ret
        exact ⟨by rw [HP.out]; first | (simp [h1, h2, h3]; done) | (simp; omega), by repeat (first | exact Below.refl _ _ | apply Below.drew | refine Below.alloc ?_ (by first | (simp; done) | (simp; omega)) _)⟩
    · go_wp2
      go_ret
      exact ⟨by rw [HP.out]; first | (simp [h1, h2]; done) | (simp; omega), by repeat (first | exact Below.refl _ _ | apply Below.drew | refine Below.alloc ?_ (by first | (simp; done) | (simp; omega)) _)⟩
  · go_wp2
    go_ret
    exact ⟨by rw [HP.out]; first | (simp [h1]; done) | (simp; omega), by repeat (first | exact Below.refl _ _ | apply Below.drew | refine Below.alloc ?_ (by first | (simp; done) | (simp; omega)) _)⟩

theorem numB_small (n : Int) (h0 : -9223372036854775808 ≤ n) (h : n ≤ 9223372036854775807) : (numB n).size ≤ 21 := Lib.itoa_length_le n (by omega) (by omega)
theorem two_bound (a b : ByteArray) (ha : a.size ≤ 21) (hb : b.size ≤ 21) : (packL [a, b]).length ≤ 100 := by
  have h1 := item_length a
  have h2 := item_length b
  have h3 := numB_small a.size (by omega) (by omega)
  have h4 := numB_small b.size (by omega) (by omega)
  unfold packL
  simp only [List.flatMap_cons, List.flatMap_nil, List.length_append, List.length_nil]
  omega
theorem nameB_size (g n : Int) (h : isP g n = true) : (nameB g n).size ≤ 100 := by
  obtain ⟨h1, h2, h3, h4⟩ := isP_true h
  have := two_bound (numB g) (numB n) (numB_small g (by omega) (by omega)) (numB_small n (by omega) (by omega))
  unfold nameB packB
  show (packL [numB g, numB n]).toArray.size ≤ 100
  simpa using this
theorem name_no (g n : Int) (w : World) (h : isP g n = false) :
    Calls Tryd.prog 71 #[.agg #[.int .i64 g, .int .i64 n]] w fun e w' => e = .returned (.tuple #[.string ⟨#[]⟩, .int .i64 1]) ∧ Below w.heap.size w w' := by
  go_enter Tryd.func71, Tryd.ntmps71
  go_wp2_with (go_at_call 119; refine (is_any _ _ _).mono ?_; rintro e w1 ⟨rfl, hb1⟩; rw [h])
  go_ret2
  have hB0 : Below w.heap.size w (w.alloc (.cells #[.int .i64 g, .int .i64 n] 103)) := (Below.refl _ w).alloc (Nat.le_refl _) _
  exact ⟨rfl, hB0.trans (hb1.mono hB0.size)⟩
theorem pair_any (a b : ByteArray) (w : World) (hG : GPow w) (hl : (packL [a, b]).length ≤ 100) :
    Calls Tryd.prog 101 #[.slice (some ⟨w.heap.size, 0, none⟩) 2 2] (w.alloc (.cells #[.string a, .string b] 9)) fun e w' => e = .returned (.string (packB [a, b])) ∧ Below w.heap.size w w' := by
  have hB : Below w.heap.size w (w.alloc (.cells #[.string a, .string b] 9)) := (Below.refl _ w).alloc (Nat.le_refl _) _
  refine (pack_any (.slice (some ⟨w.heap.size, 0, none⟩) 2 2) [a, b] _ (hG.below hB hG.lt) ⟨_, 2, rfl, by simp, fun _ => ⟨w.heap.size, 0, rfl, by simp, fun k s hk => ?_⟩⟩ (by omega)).mono ?_
  · match k, hk with
    | 0, hk => simp at hk; subst hk; simp
    | 1, hk => simp at hk; subst hk; simp
    | k + 2, hk => simp at hk
  · rintro e w' ⟨he, hb⟩
    exact ⟨he, hB.trans (hb.mono hB.size)⟩
def NS (w : World) (g n : Int) (w' : World) : Prop :=
  w'.cell? ⟨w.heap.size, 0, none⟩ = some (.int .i64 g) ∧ w'.cell? ⟨w.heap.size, 1, none⟩ = some (.int .i64 n) ∧ w.heap.size < w'.heap.size ∧ Below w.heap.size w w' ∧ GPow w'
theorem NS.step {w w1 w2 : World} {g n : Int} (h : NS w g n w1) (hb : Below w1.heap.size w1 w2) : NS w g n w2 := by
  obtain ⟨h0, h1, hl, hB, hG⟩ := h
  exact ⟨(hb.cell (p := ⟨w.heap.size, 0, none⟩) hl).trans h0, (hb.cell (p := ⟨w.heap.size, 1, none⟩) hl).trans h1, Nat.lt_of_lt_of_le hl hb.size, hB.trans (hb.mono hB.size), hG.below hb hG.lt⟩
theorem NS.drew {w w1 : World} {g n : Int} (h : NS w g n w1) : NS w g n w1.drew := h.step (Below.refl _ _).drew
theorem NS.new (w : World) (g n : Int) (hG : GPow w) : NS w g n (w.alloc (.cells #[.int .i64 g, .int .i64 n] 103)) :=
  ⟨by simp, by simp, by simp, (Below.refl _ _).alloc (Nat.le_refl _) _, hG.below ((Below.refl w.heap.size w).alloc (Nat.le_refl _) _) hG.lt⟩
set_option maxHeartbeats 1000000 in
theorem name_yes (g n : Int) (w : World) (h : isP g n = true) (hG : GPow w) :
    Calls Tryd.prog 71 #[.agg #[.int .i64 g, .int .i64 n]] w fun e w' => e = .returned (.tuple #[.string (nameB g n), .int .i64 0]) ∧ Below w.heap.size w w' := by
  have hn0 := NS.new w g n hG
  obtain ⟨q1, q2, q3, q4⟩ := isP_true h
  have HB := Lib.hid (two_bound (numB g) (numB n) (numB_small g (by omega) (by omega)) (numB_small n (by omega) (by omega)))
  have HN0 := Lib.hid hn0
  have HP := Lib.hid (show packB [numB g, numB n] = nameB g n from rfl)
  clear hn0
  go_enter Tryd.func71, Tryd.ntmps71
  go_wp2_with (go_at_call 119; refine (is_any _ _ _).mono ?_; rintro e w1 ⟨rfl, hb1⟩; rw [h])
  have hs1 := HN0.out.step hb1
  obtain ⟨c0, c1, hl1, hB1, hG1⟩ := id hs1
  have HS1 := Lib.hid hs1
  clear hs1 hb1 HN0 hG
  go_region_with
    (first
      | (go_at_call 114; (with_reducible refine (num_any g _ ?_ ?_ ?_).mono ?_); (first | exact hG1 | exact HS1.out.drew.2.2.2.2); (omega); (omega); rintro e w2 ⟨rfl, hb2⟩; have hs2 := HS1.out.drew.step hb2; obtain ⟨c0', c1', hl2, hB2, hG2⟩ := id hs2; have HS2 := Lib.hid hs2; clear hs2 hb2)
      | (go_at_call 114; (with_reducible refine (num_any n _ ?_ ?_ ?_).mono ?_); (exact hG2); (omega); (omega); rintro e w3 ⟨rfl, hb3⟩; have hs3 := HS2.out.step hb3; obtain ⟨c0'', c1'', hl3, hB3, hG3⟩ := id hs3; have HS3 := Lib.hid hs3; clear hs3 hb3)
      | (go_at_call 101; (with_reducible refine (pair_any (numB g) (numB n) _ ?_ ?_).mono ?_); (exact hG3); (exact HB.out); rintro e w4 ⟨rfl, hb4⟩; have hB4 := hB3.trans (hb4.mono hB3.size)))
  all_goals
    go_wp2
    go_ret2
    exact ⟨by rw [← HP.out]; rfl, hB4⟩
end Go.Proofs.YtljpjckklkpipaaDoor.Sa
