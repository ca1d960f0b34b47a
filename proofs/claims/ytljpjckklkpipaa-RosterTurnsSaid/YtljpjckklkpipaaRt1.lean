/- Walks for wapentakelaw07: the roster's small functions. -/
import Derived.Test.YtljpjckklkpipaaProg
import Derived.WalkKit
import Derived.Deep.RegionHeld3
import Derived.Deep.DeepCutAuto
import Derived.Laws.OwnMore
import Derived.OwnWalk
import Derived.Lib.Hide
import Derived.Maps.AppendAt
import Derived.WalkLawsBesides
import Derived.BigQuiet
import Derived.BigRegion
import Derived.Deep.QuietTactic
import Derived.Outline
import Derived.WalkSpells
import Derived.Deep.DeepMust
import Derived.Deep.DeepFit
namespace Go.Proofs.Ytljpjckklkpipaa.Rt
open Go.RowKit
set_option maxRecDepth 100000

theorem check_any (f g c : Int) (w : World) (hf0 : 0 ≤ f) (hf : f ≤ 3) (hg0 : 1 ≤ g) (hg : g ≤ 4) (hc0 : 1 ≤ c) (hc : c ≤ 8) :
    Calls Try.prog 4 #[.agg #[.int .i64 f, .int .i64 g, .int .i64 c]] w fun e w' => e = .returned (.int .i64 0) ∧ Below w.heap.size w w' := by
  go_enter Try.func4, Try.ntmps4
  go_wp2
  go_ret
  exact ⟨rfl, by repeat (first | exact Below.refl _ _ | apply Below.drew | refine Below.alloc ?_ (by first | (simp; done) | (simp; omega)) _)⟩

theorem n_any (f g c : Int) (w : World) (hf0 : 0 ≤ f) (hf : f ≤ 3) (hg0 : 1 ≤ g) (hg : g ≤ 4) (hc0 : 1 ≤ c) (hc : c ≤ 8) :
    Calls Try.prog 6 #[.agg #[.int .i64 f, .int .i64 g, .int .i64 c]] w fun e w' => e = .returned (.int .i64 (3 * f + 1)) ∧ Below w.heap.size w w' := by
  go_enter Try.func6, Try.ntmps6
  go_wp2
  go_ret
  exact ⟨rfl, by repeat (first | exact Below.refl _ _ | apply Below.drew | refine Below.alloc ?_ (by first | (simp; done) | (simp; omega)) _)⟩

theorem primary_any (f g c v : Int) (w : World) (hf0 : 0 ≤ f) (hf : f ≤ 3) (hg0 : 1 ≤ g) (hg : g ≤ 4) (hc0 : 1 ≤ c) (hc : c ≤ 8) (hv0 : 0 ≤ v) (hv : v ≤ 1099511627776) :
    Calls Try.prog 7 #[.agg #[.int .i64 f, .int .i64 g, .int .i64 c], .int .i64 v] w fun e w' => e = .returned (.tuple #[.int .i64 (v % (3 * f + 1)), .int .i64 0]) ∧ Below w.heap.size w w' := by
  go_enter Try.func7, Try.ntmps7
  go_wp2
  go_ret2
  exact ⟨rfl, by repeat (first | exact Below.refl _ _ | apply Below.drew | refine Below.alloc ?_ (by first | (simp; done) | (simp; omega)) _)⟩

theorem only_any (n : Int) (w : World) :
    Calls Try.prog 12 #[.agg #[.int .i64 1, .int .i64 2, .int .i64 2], .int .i64 n] w fun e w' => e = .returned (.int .i64 n) ∧ Below w.heap.size w w' := by
  go_enter Try.func12, Try.ntmps12
  go_wp2
  go_ret
  exact ⟨rfl, by repeat (first | exact Below.refl _ _ | apply Below.drew | refine Below.alloc ?_ (by first | (simp; done) | (simp; omega)) _)⟩
/-- what a call keeps of a block below -/
theorem kept3 {W w1 w2 : World} {b : Nat} {x y z : Value} (hb : Below w1.heap.size w1 w2) (h : w1.cell? ⟨b, 0, none⟩ = some x ∧ w1.cell? ⟨b, 1, none⟩ = some y ∧ w1.cell? ⟨b, 2, none⟩ = some z ∧ b < w1.heap.size ∧ Below b W w1) :
    w2.cell? ⟨b, 0, none⟩ = some x ∧ w2.cell? ⟨b, 1, none⟩ = some y ∧ w2.cell? ⟨b, 2, none⟩ = some z ∧ b < w2.heap.size ∧ Below b W w2 := by
  obtain ⟨h0, h1, h2, hl, hB⟩ := h
  exact ⟨(hb.cell (p := ⟨b, 0, none⟩) hl).trans h0, (hb.cell (p := ⟨b, 1, none⟩) hl).trans h1, (hb.cell (p := ⟨b, 2, none⟩) hl).trans h2, Nat.lt_of_lt_of_le hl hb.size, hB.trans (hb.mono (Nat.le_of_lt hl))⟩
theorem ends_two (w : World) :
    Calls Try.prog 9 #[.agg #[.int .i64 1, .int .i64 2, .int .i64 2]] w fun e w' => e = .returned (.int .i64 14) ∧ Below w.heap.size w w' := by
  go_enter Try.func9, Try.ntmps9
  go_wp2_with fail
  have hS : (w.alloc (.cells #[.int .i64 1, .int .i64 2, .int .i64 2] 23)).cell? ⟨w.heap.size, 0, none⟩ = some (.int .i64 1) ∧ (w.alloc (.cells #[.int .i64 1, .int .i64 2, .int .i64 2] 23)).cell? ⟨w.heap.size, 1, none⟩ = some (.int .i64 2) ∧ (w.alloc (.cells #[.int .i64 1, .int .i64 2, .int .i64 2] 23)).cell? ⟨w.heap.size, 2, none⟩ = some (.int .i64 2) ∧ w.heap.size < (w.alloc (.cells #[.int .i64 1, .int .i64 2, .int .i64 2] 23)).heap.size ∧ Below w.heap.size w (w.alloc (.cells #[.int .i64 1, .int .i64 2, .int .i64 2] 23)) := by
    refine ⟨by simp, by simp, by simp, by simp, ?_⟩
    exact (Below.refl _ _).alloc (Nat.le_refl _) _
  generalize w.alloc (.cells #[.int .i64 1, .int .i64 2, .int .i64 2] 23) = w1 at hS ⊢
  obtain ⟨h0, h1, h2, hl, hB⟩ := hS
  go_region_held3 (fun w' => w'.cell? ⟨w.heap.size, 0, none⟩ = some (.int .i64 1) ∧ w'.cell? ⟨w.heap.size, 1, none⟩ = some (.int .i64 2) ∧ w'.cell? ⟨w.heap.size, 2, none⟩ = some (.int .i64 2) ∧ w.heap.size < w'.heap.size ∧ Below w.heap.size w w')
    (first | exact ⟨h0, h1, h2, hl, hB⟩ | exact ⟨h0, h1, h2, hl, hB.drew⟩ | assumption)
    (first | (go_at_call 6; refine (n_any 1 2 2 _ (by omega) (by omega) (by omega) (by omega) (by omega) (by omega)).mono ?_; rintro e w2 ⟨rfl, hb2⟩; have hS2 := kept3 hb2 (by assumption))
           | (go_at_call 12; refine (only_any _ _).mono ?_; rintro e w2 ⟨rfl, hb2⟩; have hS2 := kept3 hb2 (by assumption)))
  all_goals go_wp2
  all_goals go_ret
  all_goals exact ⟨by first | rfl | simp [go_sem] | decide, hS2.2.2.2.2⟩
theorem end_two (no : Int) (w : World) (h0 : 0 ≤ no) (h : no < 4) :
    Calls Try.prog 8 #[.agg #[.int .i64 1, .int .i64 2, .int .i64 2], .agg #[.int .i64 1, .int .i64 no]] w fun e w' => e = .returned (.tuple #[.int .i64 (4 + no), .int .i64 0]) ∧ Below w.heap.size w w' := by
  go_enter Try.func8, Try.ntmps8
  go_wp2
  go_ret2
  exact ⟨rfl, by repeat (first | exact Below.refl _ _ | apply Below.drew | refine Below.alloc ?_ (by first | (simp; done) | (simp; omega)) _)⟩
theorem end_client (w : World) :
    Calls Try.prog 8 #[.agg #[.int .i64 1, .int .i64 2, .int .i64 2], .agg #[.int .i64 (-1), .int .i64 1]] w fun e w' => e = .returned (.tuple #[.int .i64 13, .int .i64 0]) ∧ Below w.heap.size w w' := by
  go_enter Try.func8, Try.ntmps8
  go_wp2
  go_ret2
  exact ⟨rfl, by repeat (first | exact Below.refl _ _ | apply Below.drew | refine Below.alloc ?_ (by first | (simp; done) | (simp; omega)) _)⟩
theorem other_any (no : Int) (w : World) (h0 : 0 ≤ no) (h : no < 4) :
    Calls Try.prog 14 #[.int .i64 (-1), .int .i64 no] w fun e w' => e = .returned (.bool true) ∧ Below w.heap.size w w' := by
  have hb : (no != -1) = true := by rw [bne_iff_ne]; omega
  go_enter Try.func14, Try.ntmps14
  go_wp2
  go_ret
  exact ⟨rfl, by repeat (first | exact Below.refl _ _ | apply Below.drew | refine Below.alloc ?_ (by first | (simp; done) | (simp; omega)) _)⟩
end Go.Proofs.Ytljpjckklkpipaa.Rt
