/- Walks of package table: Do at a key that is not there. -/
import Derived.Test.YtljpjckklkpipaaDoorTe
namespace Go.Proofs.YtljpjckklkpipaaDoor.Tw
open Go.RowKit Wd Tl Ck
set_option maxRecDepth 100000
set_option linter.unusedSimpArgs false

/-- the rows' slice, whatever it is -/
theorem Tab.form {w : World} {tb : Nat} {v : Value} {g : Option Nat} {rows : List (ByteArray × ByteArray)} (h : Tab w tb v g rows) : ∃ A c, v = .slice A rows.length c := by
  rcases h.row with ⟨_, hv, hr⟩ | ⟨b, cap, cur, hg, hv, r⟩
  · exact ⟨_, _, by rw [hr]; exact hv⟩
  · exact ⟨_, _, hv⟩

theorem do_put_new (tb : Nat) (A : Option Addr) (c : Nat) (g : Option Nat) (rows : List (ByteArray × ByteArray)) (key v old : ByteArray) (w : World) (h : Tab w tb (.slice A rows.length c) g rows) (hc : chk 2 key v old = 0) (hh : has rows key = false) (hl : rows.length < 16) :
    Calls Tryd.prog 43 #[.pointer (some ⟨tb, 0, none⟩), .agg #[.int .i64 2, .string key, .string v, .string old]] w fun e w' => e = .returned (.tuple #[.string ⟨#[]⟩, .int .i64 0]) ∧ To w tb g (put rows key v) w' := by
  have HC := Lib.hid hc
  have HH := Lib.hid hh
  have hf := h.few
  clear hc hh
  obtain ⟨rows', hp⟩ : ∃ rows', put rows key v = rows' := ⟨_, rfl⟩
  have HP := Lib.hid hp
  clear hp
  have hne : ((rows.length : Int) == 16) = false := by rw [beq_eq_false_iff_ne]; omega
  go_enter Tryd.func43, Tryd.ntmps43
  go_wp2_with (first
    | (go_at_call 35; refine (ck_of HC.out _).mono ?_; rintro e w1 ⟨rfl, hb1⟩; have hx1 := box_start hb1; obtain ⟨b0, b1, b2, b3⟩ := box4 hx1; clear hb1)
    | (go_at_call 99; refine (fnd_of HH.out rfl _ (h.below (box_below hx1))).mono ?_; rintro e w2 ⟨rfl, hb2⟩; have hx2 := box_more hx1 hb2; obtain ⟨d0, d1, d2, d3⟩ := box4 hx2; have h2 := h.below (box_below hx2); have c2 := h2.cell; clear hb2)
    | (go_at_call 96; refine (value_any _ _).mono ?_; rintro e w4 ⟨rfl, rfl⟩)
    | (go_at_call 100; refine (set_of HP.out (.inr hl) _ h2).mono ?_; rintro e w3 ⟨rfl, ht3⟩; obtain ⟨f0, f1, f2, f3⟩ := box_to hx2 ht3 h.lt h.row_lt'))
  go_ret2
  exact ⟨rfl, HP.out ▸ ht3.of_below (box_below hx2)⟩

theorem do_put_full (tb : Nat) (A : Option Addr) (c : Nat) (g : Option Nat) (rows : List (ByteArray × ByteArray)) (key v old : ByteArray) (w : World) (h : Tab w tb (.slice A rows.length c) g rows) (hc : chk 2 key v old = 0) (hh : has rows key = false) (hl : rows.length = 16) :
    Calls Tryd.prog 43 #[.pointer (some ⟨tb, 0, none⟩), .agg #[.int .i64 2, .string key, .string v, .string old]] w fun e w' => e = .returned (.tuple #[.string ⟨#[]⟩, .int .i64 5]) ∧ To w tb g rows w' := by
  have HC := Lib.hid hc
  have HH := Lib.hid hh
  have hf := h.few
  clear hc hh
  go_enter Tryd.func43, Tryd.ntmps43
  go_wp2_with (first
    | (go_at_call 35; refine (ck_of HC.out _).mono ?_; rintro e w1 ⟨rfl, hb1⟩; have hx1 := box_start hb1; obtain ⟨b0, b1, b2, b3⟩ := box4 hx1; clear hb1)
    | (go_at_call 99; refine (fnd_of HH.out rfl _ (h.below (box_below hx1))).mono ?_; rintro e w2 ⟨rfl, hb2⟩; have hx2 := box_more hx1 hb2; obtain ⟨d0, d1, d2, d3⟩ := box4 hx2; have h2 := h.below (box_below hx2); have c2 := h2.cell; clear hb2)
    | (go_at_call 100; refine (set_full tb _ g rows key v _ h2 HH.out (by omega)).mono ?_; rintro e w3 ⟨rfl, hb3⟩; have hx3 := box_more hx2 hb3))
  go_ret2
  exact ⟨rfl, .same h (box_below hx3)⟩

theorem do_app_full (tb : Nat) (A : Option Addr) (c : Nat) (g : Option Nat) (rows : List (ByteArray × ByteArray)) (key v old : ByteArray) (w : World) (h : Tab w tb (.slice A rows.length c) g rows) (hc : chk 3 key v old = 0) (hh : has rows key = false) (hl : rows.length = 16) :
    Calls Tryd.prog 43 #[.pointer (some ⟨tb, 0, none⟩), .agg #[.int .i64 3, .string key, .string v, .string old]] w fun e w' => e = .returned (.tuple #[.string ⟨#[]⟩, .int .i64 5]) ∧ To w tb g rows w' := by
  have HC := Lib.hid hc
  have HH := Lib.hid hh
  have hf := h.few
  clear hc hh
  have hne : ((rows.length : Int) == 16) = true := by rw [beq_iff_eq]; omega
  go_enter Tryd.func43, Tryd.ntmps43
  go_wp2_with (first
    | (go_at_call 35; refine (ck_of HC.out _).mono ?_; rintro e w1 ⟨rfl, hb1⟩; have hx1 := box_start hb1; obtain ⟨b0, b1, b2, b3⟩ := box4 hx1; clear hb1)
    | (go_at_call 99; refine (fnd_of HH.out rfl _ (h.below (box_below hx1))).mono ?_; rintro e w2 ⟨rfl, hb2⟩; have hx2 := box_more hx1 hb2; obtain ⟨d0, d1, d2, d3⟩ := box4 hx2; have h2 := h.below (box_below hx2); have c2 := h2.cell; clear hb2))
  go_ret2
  exact ⟨rfl, .same h (box_below hx2)⟩

theorem do_app_new (tb : Nat) (A : Option Addr) (c : Nat) (g : Option Nat) (rows : List (ByteArray × ByteArray)) (key v old : ByteArray) (w : World) (h : Tab w tb (.slice A rows.length c) g rows) (hc : chk 3 key v old = 0) (hh : has rows key = false) (hl : rows.length < 16) (hs : v.size ≤ 64) :
    Calls Tryd.prog 43 #[.pointer (some ⟨tb, 0, none⟩), .agg #[.int .i64 3, .string key, .string v, .string old]] w fun e w' => e = .returned (.tuple #[.string v, .int .i64 0]) ∧ To w tb g (put rows key v) w' := by
  have HC := Lib.hid hc
  have HH := Lib.hid hh
  have hf := h.few
  clear hc hh
  obtain ⟨rows', hp⟩ : ∃ rows', put rows key v = rows' := ⟨_, rfl⟩
  have HP := Lib.hid hp
  clear hp
  have hne : ((rows.length : Int) == 16) = false := by rw [beq_eq_false_iff_ne]; omega
  go_enter Tryd.func43, Tryd.ntmps43
  go_wp2_with (first
    | (go_at_call 35; refine (ck_of HC.out _).mono ?_; rintro e w1 ⟨rfl, hb1⟩; have hx1 := box_start hb1; obtain ⟨b0, b1, b2, b3⟩ := box4 hx1; clear hb1)
    | (go_at_call 99; refine (fnd_of HH.out rfl _ (h.below (box_below hx1))).mono ?_; rintro e w2 ⟨rfl, hb2⟩; have hx2 := box_more hx1 hb2; obtain ⟨d0, d1, d2, d3⟩ := box4 hx2; have h2 := h.below (box_below hx2); have c2 := h2.cell; clear hb2)
    | (go_at_call 96; refine (value_any _ _).mono ?_; rintro e w4 ⟨rfl, rfl⟩)
    | (go_at_call 100; refine (set_of HP.out (.inr hl) _ h2).mono ?_; rintro e w3 ⟨rfl, ht3⟩; obtain ⟨f0, f1, f2, f3⟩ := box_to hx2 ht3 h.lt h.row_lt'))
  go_ret2
  exact ⟨rfl, HP.out ▸ ht3.of_below (box_below hx2)⟩
end Go.Proofs.YtljpjckklkpipaaDoor.Tw
