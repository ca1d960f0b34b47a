/- Walks of package table: Do at a key that is there. -/
import Derived.Test.YtljpjckklkpipaaDoorTd
namespace Go.Proofs.YtljpjckklkpipaaDoor.Tw
open Go.RowKit Wd Tl Ck
set_option maxRecDepth 100000
set_option linter.unusedSimpArgs false

/-- behind set: the operation's own box -/
theorem box_to {w w2 w3 : World} {a b c d : Value} {t : TypeId} {tb : Nat} {g : Option Nat} {rows : List (ByteArray × ByteArray)} (h : Below (w.heap.size + 1) (w.alloc (.cells #[a, b, c, d] t)) w2) (ht : To w2 tb g rows w3) (h1 : tb < w.heap.size) (h2 : ∀ k, g = some k → k < w.heap.size) :
    w3.cell? ⟨w.heap.size, 0, none⟩ = some a ∧ w3.cell? ⟨w.heap.size, 1, none⟩ = some b ∧ w3.cell? ⟨w.heap.size, 2, none⟩ = some c ∧ w3.cell? ⟨w.heap.size, 3, none⟩ = some d := by
  obtain ⟨b0, b1, b2, b3⟩ := box4 h
  obtain ⟨v', g', _, _, hk⟩ := ht
  have hs : w.heap.size < w2.heap.size := by have := h.size; simp at this; omega
  have hb : w3.heap[w.heap.size]? = w2.heap[w.heap.size]? := hk.block _ hs (fun e => by
    rcases e with e | e
    · omega
    · have := h2 _ e.symm; omega)
  exact ⟨(World.cell?_of_block (a := ⟨w.heap.size, 0, none⟩) hb).trans b0, (World.cell?_of_block (a := ⟨w.heap.size, 1, none⟩) hb).trans b1, (World.cell?_of_block (a := ⟨w.heap.size, 2, none⟩) hb).trans b2, (World.cell?_of_block (a := ⟨w.heap.size, 3, none⟩) hb).trans b3⟩
theorem Tab.row_lt' {w : World} {tb : Nat} {v : Value} {g : Option Nat} {rows : List (ByteArray × ByteArray)} (h : Tab w tb v g rows) : ∀ k, g = some k → k < w.heap.size := by
  rintro k rfl
  exact h.row_lt
/-- what a table is where a key is there -/
theorem Tab.there {w : World} {tb : Nat} {v : Value} {g : Option Nat} {rows : List (ByteArray × ByteArray)} {key : ByteArray} (h : Tab w tb v g rows) (hh : has rows key = true) :
    ∃ b cap had, g = some b ∧ v = .slice (some ⟨b, 0, none⟩) rows.length cap ∧ rows[lb rows key]? = some (key, had) := by
  obtain ⟨had, hx⟩ := (has_iff h.srt).1 hh
  obtain ⟨b, cap, hg, hv, _⟩ := h.at_ (List.getElem?_eq_some_iff.1 hx).1
  exact ⟨b, cap, had, hg, hv, hx⟩
theorem set_of {tb : Nat} {v : Value} {g : Option Nat} {rows rows' : List (ByteArray × ByteArray)} {key u : ByteArray} (hp : put rows key u = rows') (hl : has rows key = true ∨ rows.length < 16) (w : World) (h : Tab w tb v g rows) :
    Calls Tryd.prog 100 #[.pointer (some ⟨tb, 0, none⟩), .string key, .string u] w fun e w' => e = .returned (.int .i64 0) ∧ To w tb g rows' w' := by
  subst hp
  exact set_any tb v g rows key u w h hl

theorem do_get (tb b cap : Nat) (rows : List (ByteArray × ByteArray)) (key v old had : ByteArray) (w : World) (h : Tab w tb (.slice (some ⟨b, 0, none⟩) rows.length cap) (some b) rows) (hc : chk 1 key v old = 0) (hh : has rows key = true) (i : Nat) (hi : lb rows key = i) (hx : rows[i]? = some (key, had)) :
    Calls Tryd.prog 43 #[.pointer (some ⟨tb, 0, none⟩), .agg #[.int .i64 1, .string key, .string v, .string old]] w fun e w' => e = .returned (.tuple #[.string had, .int .i64 0]) ∧ To w tb (some b) rows w' := by
  have HC := Lib.hid hc
  have HH := Lib.hid hh
  have HI := Lib.hid hi
  have HX := Lib.hid hx
  have hil : i < rows.length := (List.getElem?_eq_some_iff.1 hx).1
  have hf := h.few
  clear hc hh hi hx
  go_enter Tryd.func43, Tryd.ntmps43
  go_wp2_with (first
    | (go_at_call 35; refine (ck_of HC.out _).mono ?_; rintro e w1 ⟨rfl, hb1⟩; have hx1 := box_start hb1; obtain ⟨b0, b1, b2, b3⟩ := box4 hx1; clear hb1)
    | (go_at_call 99; refine (fnd_of HH.out HI.out _ (h.below (box_below hx1))).mono ?_; rintro e w2 ⟨rfl, hb2⟩; have hx2 := box_more hx1 hb2; obtain ⟨d0, d1, d2, d3⟩ := box4 hx2; have h2 := h.below (box_below hx2); have c2 := h2.cell; obtain ⟨r0, r1, r2⟩ := h2.get HX.out; clear hb2))
  go_ret2
  exact ⟨rfl, .same h (box_below hx2)⟩

theorem do_put (tb b cap : Nat) (rows : List (ByteArray × ByteArray)) (key v old had : ByteArray) (w : World) (h : Tab w tb (.slice (some ⟨b, 0, none⟩) rows.length cap) (some b) rows) (hc : chk 2 key v old = 0) (hh : has rows key = true) (i : Nat) (hi : lb rows key = i) (hx : rows[i]? = some (key, had)) :
    Calls Tryd.prog 43 #[.pointer (some ⟨tb, 0, none⟩), .agg #[.int .i64 2, .string key, .string v, .string old]] w fun e w' => e = .returned (.tuple #[.string had, .int .i64 0]) ∧ To w tb (some b) (put rows key v) w' := by
  have HC := Lib.hid hc
  have HH := Lib.hid hh
  have HI := Lib.hid hi
  have HX := Lib.hid hx
  have hil : i < rows.length := (List.getElem?_eq_some_iff.1 hx).1
  have hf := h.few
  clear hc hh hi hx
  obtain ⟨rows', hp⟩ : ∃ rows', put rows key v = rows' := ⟨_, rfl⟩
  have HP := Lib.hid hp
  clear hp
  go_enter Tryd.func43, Tryd.ntmps43
  go_wp2_with (first
    | (go_at_call 35; refine (ck_of HC.out _).mono ?_; rintro e w1 ⟨rfl, hb1⟩; have hx1 := box_start hb1; obtain ⟨b0, b1, b2, b3⟩ := box4 hx1; clear hb1)
    | (go_at_call 99; refine (fnd_of HH.out HI.out _ (h.below (box_below hx1))).mono ?_; rintro e w2 ⟨rfl, hb2⟩; have hx2 := box_more hx1 hb2; obtain ⟨d0, d1, d2, d3⟩ := box4 hx2; have h2 := h.below (box_below hx2); have c2 := h2.cell; obtain ⟨r0, r1, r2⟩ := h2.get HX.out; clear hb2)
    | (go_at_call 96; refine (value_any _ _).mono ?_; rintro e w4 ⟨rfl, rfl⟩)
    | (go_at_call 100; refine (set_of HP.out (.inl HH.out) _ h2).mono ?_; rintro e w3 ⟨rfl, ht3⟩; obtain ⟨f0, f1, f2, f3⟩ := box_to hx2 ht3 h.lt h.row_lt'))
  go_ret2
  exact ⟨rfl, HP.out ▸ ht3.of_below (box_below hx2)⟩

theorem do_app (tb b cap : Nat) (rows : List (ByteArray × ByteArray)) (key v old had : ByteArray) (w : World) (h : Tab w tb (.slice (some ⟨b, 0, none⟩) rows.length cap) (some b) rows) (hc : chk 3 key v old = 0) (hh : has rows key = true) (i : Nat) (hi : lb rows key = i) (hx : rows[i]? = some (key, had)) (hs : had.size + v.size ≤ 64) :
    Calls Tryd.prog 43 #[.pointer (some ⟨tb, 0, none⟩), .agg #[.int .i64 3, .string key, .string v, .string old]] w fun e w' => e = .returned (.tuple #[.string (had ++ v), .int .i64 0]) ∧ To w tb (some b) (put rows key (had ++ v)) w' := by
  have HC := Lib.hid hc
  have HH := Lib.hid hh
  have HI := Lib.hid hi
  have HX := Lib.hid hx
  have hil : i < rows.length := (List.getElem?_eq_some_iff.1 hx).1
  have hf := h.few
  clear hc hh hi hx
  obtain ⟨rows', hp⟩ : ∃ rows', put rows key (had ++ v) = rows' := ⟨_, rfl⟩
  have HP := Lib.hid hp
  clear hp
  go_enter Tryd.func43, Tryd.ntmps43
  go_wp2_with (first
    | (go_at_call 35; refine (ck_of HC.out _).mono ?_; rintro e w1 ⟨rfl, hb1⟩; have hx1 := box_start hb1; obtain ⟨b0, b1, b2, b3⟩ := box4 hx1; clear hb1)
    | (go_at_call 99; refine (fnd_of HH.out HI.out _ (h.below (box_below hx1))).mono ?_; rintro e w2 ⟨rfl, hb2⟩; have hx2 := box_more hx1 hb2; obtain ⟨d0, d1, d2, d3⟩ := box4 hx2; have h2 := h.below (box_below hx2); have c2 := h2.cell; obtain ⟨r0, r1, r2⟩ := h2.get HX.out; clear hb2)
    | (go_at_call 96; refine (value_any _ _).mono ?_; rintro e w4 ⟨rfl, rfl⟩)
    | (go_at_call 100; refine (set_of HP.out (.inl HH.out) _ h2).mono ?_; rintro e w3 ⟨rfl, ht3⟩; obtain ⟨f0, f1, f2, f3⟩ := box_to hx2 ht3 h.lt h.row_lt'))
  go_ret2
  exact ⟨rfl, HP.out ▸ ht3.of_below (box_below hx2)⟩

theorem do_app_long (tb b cap : Nat) (rows : List (ByteArray × ByteArray)) (key v old had : ByteArray) (w : World) (h : Tab w tb (.slice (some ⟨b, 0, none⟩) rows.length cap) (some b) rows) (hc : chk 3 key v old = 0) (hh : has rows key = true) (i : Nat) (hi : lb rows key = i) (hx : rows[i]? = some (key, had)) (hs : 64 < had.size + v.size) (hs1 : had.size ≤ 64) (hs2 : v.size ≤ 64) :
    Calls Tryd.prog 43 #[.pointer (some ⟨tb, 0, none⟩), .agg #[.int .i64 3, .string key, .string v, .string old]] w fun e w' => e = .returned (.tuple #[.string ⟨#[]⟩, .int .i64 2]) ∧ To w tb (some b) rows w' := by
  have HC := Lib.hid hc
  have HH := Lib.hid hh
  have HI := Lib.hid hi
  have HX := Lib.hid hx
  have hil : i < rows.length := (List.getElem?_eq_some_iff.1 hx).1
  have hf := h.few
  clear hc hh hi hx
  have hd : decide (had.size + v.size ≤ 64) = false := by simp; omega
  go_enter Tryd.func43, Tryd.ntmps43
  go_wp2_with (first
    | (go_at_call 35; refine (ck_of HC.out _).mono ?_; rintro e w1 ⟨rfl, hb1⟩; have hx1 := box_start hb1; obtain ⟨b0, b1, b2, b3⟩ := box4 hx1; clear hb1)
    | (go_at_call 99; refine (fnd_of HH.out HI.out _ (h.below (box_below hx1))).mono ?_; rintro e w2 ⟨rfl, hb2⟩; have hx2 := box_more hx1 hb2; obtain ⟨d0, d1, d2, d3⟩ := box4 hx2; have h2 := h.below (box_below hx2); have c2 := h2.cell; obtain ⟨r0, r1, r2⟩ := h2.get HX.out; clear hb2)
    | (go_at_call 96; refine (value_any _ _).mono ?_; rintro e w4 ⟨rfl, rfl⟩))
  go_ret2
  exact ⟨rfl, .same h (box_below hx2)⟩

theorem do_swap (tb b cap : Nat) (rows : List (ByteArray × ByteArray)) (key v old had : ByteArray) (w : World) (h : Tab w tb (.slice (some ⟨b, 0, none⟩) rows.length cap) (some b) rows) (hc : chk 5 key v old = 0) (hh : has rows key = true) (i : Nat) (hi : lb rows key = i) (hx : rows[i]? = some (key, had)) (hs : had = old) :
    Calls Tryd.prog 43 #[.pointer (some ⟨tb, 0, none⟩), .agg #[.int .i64 5, .string key, .string v, .string old]] w fun e w' => e = .returned (.tuple #[.string had, .int .i64 0]) ∧ To w tb (some b) (put rows key v) w' := by
  have HC := Lib.hid hc
  have HH := Lib.hid hh
  have HI := Lib.hid hi
  have HX := Lib.hid hx
  have hil : i < rows.length := (List.getElem?_eq_some_iff.1 hx).1
  have hf := h.few
  clear hc hh hi hx
  subst hs
  obtain ⟨rows', hp⟩ : ∃ rows', put rows key v = rows' := ⟨_, rfl⟩
  have HP := Lib.hid hp
  clear hp
  go_enter Tryd.func43, Tryd.ntmps43
  go_wp2_with (first
    | (go_at_call 35; refine (ck_of HC.out _).mono ?_; rintro e w1 ⟨rfl, hb1⟩; have hx1 := box_start hb1; obtain ⟨b0, b1, b2, b3⟩ := box4 hx1; clear hb1)
    | (go_at_call 99; refine (fnd_of HH.out HI.out _ (h.below (box_below hx1))).mono ?_; rintro e w2 ⟨rfl, hb2⟩; have hx2 := box_more hx1 hb2; obtain ⟨d0, d1, d2, d3⟩ := box4 hx2; have h2 := h.below (box_below hx2); have c2 := h2.cell; obtain ⟨r0, r1, r2⟩ := h2.get HX.out; clear hb2)
    | (go_at_call 96; refine (value_any _ _).mono ?_; rintro e w4 ⟨rfl, rfl⟩)
    | (go_at_call 100; refine (set_of HP.out (.inl HH.out) _ h2).mono ?_; rintro e w3 ⟨rfl, ht3⟩; obtain ⟨f0, f1, f2, f3⟩ := box_to hx2 ht3 h.lt h.row_lt'))
  go_ret2
  exact ⟨rfl, HP.out ▸ ht3.of_below (box_below hx2)⟩

theorem do_swap_no (tb b cap : Nat) (rows : List (ByteArray × ByteArray)) (key v old had : ByteArray) (w : World) (h : Tab w tb (.slice (some ⟨b, 0, none⟩) rows.length cap) (some b) rows) (hc : chk 5 key v old = 0) (hh : has rows key = true) (i : Nat) (hi : lb rows key = i) (hx : rows[i]? = some (key, had)) (hs : ¬ had = old) :
    Calls Tryd.prog 43 #[.pointer (some ⟨tb, 0, none⟩), .agg #[.int .i64 5, .string key, .string v, .string old]] w fun e w' => e = .returned (.tuple #[.string ⟨#[]⟩, .int .i64 7]) ∧ To w tb (some b) rows w' := by
  have HC := Lib.hid hc
  have HH := Lib.hid hh
  have HI := Lib.hid hi
  have HX := Lib.hid hx
  have hil : i < rows.length := (List.getElem?_eq_some_iff.1 hx).1
  have hf := h.few
  clear hc hh hi hx
  have hne : (had.toList == old.toList) = false := by
    rw [beq_eq_false_iff_ne]
    intro e
    rw [Lib.toList_data, Lib.toList_data] at e
    apply hs
    cases had; cases old
    simp only [ByteArray.mk.injEq]
    exact Array.toList_inj.1 e
  go_enter Tryd.func43, Tryd.ntmps43
  go_wp2_with (first
    | (go_at_call 35; refine (ck_of HC.out _).mono ?_; rintro e w1 ⟨rfl, hb1⟩; have hx1 := box_start hb1; obtain ⟨b0, b1, b2, b3⟩ := box4 hx1; clear hb1)
    | (go_at_call 99; refine (fnd_of HH.out HI.out _ (h.below (box_below hx1))).mono ?_; rintro e w2 ⟨rfl, hb2⟩; have hx2 := box_more hx1 hb2; obtain ⟨d0, d1, d2, d3⟩ := box4 hx2; have h2 := h.below (box_below hx2); have c2 := h2.cell; obtain ⟨r0, r1, r2⟩ := h2.get HX.out; clear hb2))
  go_ret2
  exact ⟨rfl, .same h (box_below hx2)⟩
end Go.Proofs.YtljpjckklkpipaaDoor.Tw
