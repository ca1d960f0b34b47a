/- The walk of wapentakelaw13.four. -/
import Derived.Test.YtljpjckklkpipaaDoorTt
namespace Go.Proofs.YtljpjckklkpipaaDoor.Tw
open Go.RowKit Wd Tl Ck Bld Pk
set_option maxRecDepth 100000

theorem empty_iff (s : ByteArray) : s.toList.isEmpty = decide (s.size = 0) := by
  rw [Lib.toList_data]
  show s.data.toList.isEmpty = decide (s.data.size = 0)
  rw [← Array.length_toList]
  cases s.data.toList <;> simp
theorem chk_eq (k : Int) (key v old : ByteArray) : chk k key v old =
    if 1 ≤ k ∧ k ≤ 5 then
      (if key.size = 0 ∨ 16 < key.size ∨ 64 < v.size ∨ 64 < old.size then 130
       else if (¬ v.size = 0 ∧ (k = 1 ∨ k = 4)) ∨ (¬ old.size = 0 ∧ ¬ k = 5) then 4 else 0)
    else 1 := by
  unfold chk
  simp only [empty_iff, decide_eq_true_eq, decide_eq_false_iff_not]

theorem do_of {rows rows' : List (ByteArray × ByteArray)} {k : Int} {key v old told : ByteArray} {e0 : Int} (ht : tdo rows k key v old = (rows', told, e0)) (tb : Nat) (v0 : Value) (g : Option Nat) (w : World) (h : Tab w tb v0 g rows) (hs : Short rows) :
    Calls Tryd.prog 43 #[.pointer (some ⟨tb, 0, none⟩), .agg #[.int .i64 k, .string key, .string v, .string old]] w fun e w' =>
      e = .returned (.tuple #[.string told, .int .i64 e0]) ∧ To w tb g rows' w' := by
  have h1 := do_any tb v0 g rows k key v old w h hs
  rw [ht] at h1
  exact h1
/-- a table that the call has made itself: nothing that was there turns -/
def Mine (W : World) (tb : Nat) (rows : List (ByteArray × ByteArray)) (w : World) : Prop :=
  ∃ v g, Tab w tb v g rows ∧ W.heap.size ≤ tb ∧ (∀ k, g = some k → W.heap.size ≤ k) ∧ Below W.heap.size W w
theorem Mine.to {W w w' : World} {tb : Nat} {g : Option Nat} {rows : List (ByteArray × ByteArray)} (h1 : W.heap.size ≤ tb) (h2 : ∀ k, g = some k → W.heap.size ≤ k) (hb : Below W.heap.size W w) (ht : To w tb g rows w') : Mine W tb rows w' := by
  obtain ⟨v', g', h3, h4, h5⟩ := ht
  refine ⟨v', g', h3, h1, fun k hk => ?_, hb.trans ⟨h5.os, h5.tape, h5.output, h5.size, fun k hk => h5.block k (Nat.lt_of_lt_of_le hk hb.size) (fun e => ?_)⟩⟩
  · rcases h4 with rfl | ⟨b, hb', h6⟩
    · exact h2 k hk
    · rw [hb'] at hk; injection hk with hk; subst hk; exact Nat.le_trans hb.size h6
  · rcases e with e | e
    · omega
    · have := h2 k e.symm; omega
theorem Mine.below {W w w' : World} {tb : Nat} {rows : List (ByteArray × ByteArray)} (h : Mine W tb rows w) (hb : Below w.heap.size w w') : Mine W tb rows w' := by
  obtain ⟨v, g, h1, h2, h3, h4⟩ := h
  exact ⟨v, g, h1.below hb, h2, h3, h4.trans (hb.mono h4.size)⟩
theorem do_mine {W : World} {tb : Nat} {rows rows' : List (ByteArray × ByteArray)} {k : Int} {key v old told : ByteArray} {e0 : Int} {w : World} (ht : tdo rows k key v old = (rows', told, e0)) (h : Mine W tb rows w) (hs : Short rows) :
    Calls Tryd.prog 43 #[.pointer (some ⟨tb, 0, none⟩), .agg #[.int .i64 k, .string key, .string v, .string old]] w fun e w' =>
      e = .returned (.tuple #[.string told, .int .i64 e0]) ∧ Mine W tb rows' w' := by
  obtain ⟨v0, g, h1, h2, h3, h4⟩ := h
  exact (do_of ht tb v0 g w h1 hs).mono fun e w' ⟨he, hto⟩ => ⟨he, Mine.to h2 h3 h4 hto⟩
theorem text_mine {W : World} {tb : Nat} {rows : List (ByteArray × ByteArray)} {w : World} {s : ByteArray} (hp : packB (flat rows) = s) (h : Mine W tb rows w) (hF : Fine rows) (hG : GPow W) :
    Calls Tryd.prog 44 #[.pointer (some ⟨tb, 0, none⟩)] w fun e w' => e = .returned (.string s) ∧ Mine W tb rows w' := by
  have hm := h
  subst hp
  obtain ⟨v0, g, h1, h2, h3, h4⟩ := h
  exact (text_any tb v0 g rows w h1 hF (hG.below h4 hG.lt)).mono fun e w' ⟨he, hb⟩ => ⟨he, hm.below hb⟩
theorem new_mine (W w : World) (hb : Below W.heap.size W w) :
    Calls Tryd.prog 41 #[] w fun e w' => e = .returned (.pointer (some ⟨w.heap.size, 0, none⟩)) ∧ Mine W w.heap.size [] w' :=
  (new_any w).mono fun e w' ⟨he, h1, h2⟩ => ⟨he, _, _, h1, hb.size, (fun k hk => by cases hk), hb.trans (h2.mono hb.size)⟩

theorem f1 : tdo [] 2 ⟨#[107]⟩ ⟨#[97]⟩ ⟨#[]⟩ = ([(⟨#[107]⟩, ⟨#[97]⟩)], ⟨#[]⟩, 0) := by unfold tdo; simp only [chk_eq]; rfl
theorem f2 : tdo [(⟨#[107]⟩, ⟨#[97]⟩)] 3 ⟨#[107]⟩ ⟨#[98]⟩ ⟨#[]⟩ = ([(⟨#[107]⟩, ⟨#[97, 98]⟩)], ⟨#[97, 98]⟩, 0) := by unfold tdo; simp only [chk_eq]; rfl
theorem f3 : tdo [(⟨#[107]⟩, ⟨#[97, 98]⟩)] 5 ⟨#[107]⟩ ⟨#[99]⟩ ⟨#[97, 98]⟩ = ([(⟨#[107]⟩, ⟨#[99]⟩)], ⟨#[97, 98]⟩, 0) := by unfold tdo; simp only [chk_eq]; rfl
theorem f4 : tdo [(⟨#[107]⟩, ⟨#[99]⟩)] 1 ⟨#[107]⟩ ⟨#[]⟩ ⟨#[]⟩ = ([(⟨#[107]⟩, ⟨#[99]⟩)], ⟨#[99]⟩, 0) := by unfold tdo; simp only [chk_eq]; rfl
theorem num1 : numB 1 = ⟨#[49]⟩ := by unfold numB Lib.itoa; rw [if_neg (by decide), Lib.decDigits]; rfl
theorem f5 : packB (flat [(⟨#[107]⟩, ⟨#[99]⟩)]) = ⟨#[49, 58, 107, 44, 49, 58, 99, 44]⟩ := by
  have e1 : numB ((⟨#[107]⟩ : ByteArray).size : Int) = ⟨#[49]⟩ := num1
  have e2 : numB ((⟨#[99]⟩ : ByteArray).size : Int) = ⟨#[49]⟩ := num1
  show (⟨(packL [⟨#[107]⟩, ⟨#[99]⟩]).toArray⟩ : ByteArray) = _
  simp only [packL, item, List.flatMap_cons, List.flatMap_nil, e1, e2]
  rfl
theorem four_any (w : World) (hG : GPow w) :
    Calls Tryd.prog 42 #[] w fun e w' => e = .returned (.bool true) ∧ Below w.heap.size w w' := by
  have n1 : Short ([] : List (ByteArray × ByteArray)) := by intro r hr; simp at hr
  have n2 : ∀ s : ByteArray, s.size ≤ 64 → Short [((⟨#[107]⟩ : ByteArray), s)] := by intro s hs r hr; simp at hr; subst hr; exact hs
  have n3 : Fine [((⟨#[107]⟩ : ByteArray), (⟨#[99]⟩ : ByteArray))] := by intro r hr; simp at hr; subst hr; decide
  have N1 := Lib.hid n1
  have N2 := Lib.hid n2
  have N3 := Lib.hid n3
  clear n1 n2 n3
  go_enter Tryd.func42, Tryd.ntmps42
  go_wp2_with fail
  refine (new_mine w w (Below.refl _ _)).mono ?_
  rintro e w1 ⟨rfl, h1⟩
  go_wp2_with fail
  refine (do_mine f1 h1 N1.out).mono ?_
  rintro e w2 ⟨rfl, h2⟩
  go_wp2_with fail
  refine (do_mine f2 h2 (N2.out _ (by decide))).mono ?_
  rintro e w3 ⟨rfl, h3⟩
  go_wp2_with fail
  refine (do_mine f3 h3 (N2.out _ (by decide))).mono ?_
  rintro e w4 ⟨rfl, h4⟩
  go_wp2_with fail
  refine (do_mine f4 h4 (N2.out _ (by decide))).mono ?_
  rintro e w5 ⟨rfl, h5⟩
  go_wp2_with fail
  refine (text_mine f5 h5 N3.out hG).mono ?_
  rintro e w6 ⟨rfl, h6⟩
  obtain ⟨_, _, _, _, _, hB⟩ := h6
  go_wp2_with fail
  go_ret
  exact ⟨rfl, hB⟩
end Go.Proofs.YtljpjckklkpipaaDoor.Tw
