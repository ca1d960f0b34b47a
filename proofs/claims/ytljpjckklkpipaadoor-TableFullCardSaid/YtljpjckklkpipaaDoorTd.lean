/- Walks of package table: Do, way by way. -/
import Derived.Test.YtljpjckklkpipaaDoorTset
import Derived.Test.YtljpjckklkpipaaDoorCk
namespace Go.Proofs.YtljpjckklkpipaaDoor.Tw
open Go.RowKit Wd Tl Ck
set_option maxRecDepth 100000
set_option linter.unusedSimpArgs false

theorem box4 {w w1 : World} {a b c d : Value} {t : TypeId} (h : Below (w.heap.size + 1) (w.alloc (.cells #[a, b, c, d] t)) w1) :
    w1.cell? ⟨w.heap.size, 0, none⟩ = some a ∧ w1.cell? ⟨w.heap.size, 1, none⟩ = some b ∧ w1.cell? ⟨w.heap.size, 2, none⟩ = some c ∧ w1.cell? ⟨w.heap.size, 3, none⟩ = some d :=
  ⟨(h.cell (p := ⟨w.heap.size, 0, none⟩) (Nat.lt_succ_self _)).trans (by simp), (h.cell (p := ⟨w.heap.size, 1, none⟩) (Nat.lt_succ_self _)).trans (by simp),
   (h.cell (p := ⟨w.heap.size, 2, none⟩) (Nat.lt_succ_self _)).trans (by simp), (h.cell (p := ⟨w.heap.size, 3, none⟩) (Nat.lt_succ_self _)).trans (by simp)⟩
theorem box_below {w w1 : World} {o : Obj} (h : Below (w.heap.size + 1) (w.alloc o) w1) : Below w.heap.size w w1 :=
  ((Below.refl _ w).alloc (Nat.le_refl _) o).trans (h.mono (Nat.le_succ _))
theorem box_more {w w1 w2 : World} {o : Obj} (h : Below (w.heap.size + 1) (w.alloc o) w1) (hb : Below w1.heap.size w1 w2) : Below (w.heap.size + 1) (w.alloc o) w2 :=
  h.trans (hb.mono (by have := h.size; simpa using this))
theorem box_start {w w1 : World} {o : Obj} (h : Below (w.alloc o).heap.size (w.alloc o) w1) : Below (w.heap.size + 1) (w.alloc o) w1 := by simpa using h

theorem fnd_of {tb : Nat} {v0 : Value} {g : Option Nat} {rows : List (ByteArray × ByteArray)} {key : ByteArray} {b : Bool} (hh : has rows key = b) {i : Nat} (hi : lb rows key = i) (w1 : World) (h : Tab w1 tb v0 g rows) :
    Calls Tryd.prog 99 #[.pointer (some ⟨tb, 0, none⟩), .string key] w1 fun e w' => e = .returned (.tuple #[.int .i64 i, .bool b]) ∧ Below w1.heap.size w1 w' := by
  subst hh hi
  exact find_any tb v0 g rows key w1 h
theorem ck_of {k : Int} {key v old : ByteArray} {e0 : Int} (hc : chk k key v old = e0) (w : World) :
    Calls Tryd.prog 35 #[.agg #[.int .i64 k, .string key, .string v, .string old]] w fun e w' => e = .returned (.int .i64 e0) ∧ Below w.heap.size w w' := by
  subst hc
  exact check_any k key v old w

theorem do_bad (tb : Nat) (v0 : Value) (g : Option Nat) (rows : List (ByteArray × ByteArray)) (k : Int) (key v old : ByteArray) (w : World) (h : Tab w tb v0 g rows) (e0 : Int) (hc : chk k key v old = e0) (hne : e0 ≠ 0) :
    Calls Tryd.prog 43 #[.pointer (some ⟨tb, 0, none⟩), .agg #[.int .i64 k, .string key, .string v, .string old]] w fun e w' => e = .returned (.tuple #[.string ⟨#[]⟩, .int .i64 e0]) ∧ To w tb g rows w' := by
  have ht : (e0 != 0) = true := by simpa using hne
  have HC := Lib.hid hc
  clear hc hne
  go_enter Tryd.func43, Tryd.ntmps43
  go_wp2_with (go_at_call 35; refine (ck_of HC.out _).mono ?_; rintro e w1 ⟨rfl, hb1⟩; have hx1 := box_start hb1)
  go_ret2
  exact ⟨rfl, .same h (box_below hx1)⟩

theorem do_none (tb : Nat) (v0 : Value) (g : Option Nat) (rows : List (ByteArray × ByteArray)) (k : Int) (key v old : ByteArray) (w : World) (h : Tab w tb v0 g rows) (hc : chk k key v old = 0) (hh : has rows key = false) (hk2 : (k == 2) = false) (hk3 : (k == 3) = false) :
    Calls Tryd.prog 43 #[.pointer (some ⟨tb, 0, none⟩), .agg #[.int .i64 k, .string key, .string v, .string old]] w fun e w' => e = .returned (.tuple #[.string ⟨#[]⟩, .int .i64 6]) ∧ To w tb g rows w' := by
  have HC := Lib.hid hc
  have HH := Lib.hid hh
  clear hc hh
  go_enter Tryd.func43, Tryd.ntmps43
  go_wp2_with (first
    | (go_at_call 35; refine (ck_of HC.out _).mono ?_; rintro e w1 ⟨rfl, hb1⟩; have hx1 := box_start hb1; obtain ⟨b0, b1, b2, b3⟩ := box4 hx1; clear hb1)
    | (go_at_call 99; refine (fnd_of HH.out rfl _ (h.below (box_below hx1))).mono ?_; rintro e w2 ⟨rfl, hb2⟩; have hx2 := box_more hx1 hb2; obtain ⟨d0, d1, d2, d3⟩ := box4 hx2; clear hb2))
  go_ret2
  exact ⟨rfl, .same h (box_below hx2)⟩
end Go.Proofs.YtljpjckklkpipaaDoor.Tw
