/- The walk of wapentakelaw13.TableReads. -/
import Derived.Test.YtljpjckklkpipaaDoorTq
import Derived.Test.YtljpjckklkpipaaDoorSl
namespace Go.Proofs.YtljpjckklkpipaaDoor.Tw
open Go.RowKit Wd Tl Ck Bld Pk Sl
set_option maxRecDepth 100000

abbrev OpT := Int × ByteArray × ByteArray × ByteArray
def encOp (o : OpT) : List Value := [.int .i64 o.1, .string o.2.1, .string o.2.2.1, .string o.2.2.2]
/-- the rows behind operations -/
def runs (l : List OpT) : List (ByteArray × ByteArray) := l.foldl (fun r o => (tdo r o.1 o.2.1 o.2.2.1 o.2.2.2).1) []
theorem runs_succ (l : List OpT) (k : Nat) (o : OpT) (hk : l[k]? = some o) : runs (l.take (k + 1)) = (tdo (runs (l.take k)) o.1 o.2.1 o.2.2.1 o.2.2.2).1 := by
  unfold runs
  rw [List.take_add_one, hk, List.foldl_append]
  rfl
theorem runs_fine (l : List OpT) : Fine (runs l) := by
  have h : ∀ (l : List OpT) (r : List (ByteArray × ByteArray)), Fine r → Fine (l.foldl (fun r o => (tdo r o.1 o.2.1 o.2.2.1 o.2.2.2).1) r) := by
    intro l
    induction l with
    | nil => intro r hr; exact hr
    | cons o l ih => intro r hr; exact ih _ (tdo_fine hr)
  exact h l [] (fun r hr => by simp at hr)

theorem reads_long (v0 : Value) (l : List OpT) (o : OpT) (w : World) (h : SlC encOp 4 w v0 l) (hG : GPow w) (hl : 200 < l.length) :
    Calls Tryd.prog 8 #[v0, .agg #[.int .i64 o.1, .string o.2.1, .string o.2.2.1, .string o.2.2.2]] w fun e w' => e = .returned (.bool true) ∧ Below w.heap.size w w' := by
  obtain ⟨A, c, rfl, hl2, _⟩ := h
  have hB0 : Below w.heap.size w (w.alloc (.cells #[.int .i64 o.1, .string o.2.1, .string o.2.2.1, .string o.2.2.2] 47)) := (Below.refl _ w).alloc (Nat.le_refl _) _
  go_enter Tryd.func8, Tryd.ntmps8
  go_wp2_with fail
  refine (new_mine w _ hB0).mono ?_
  rintro e w1 ⟨rfl, h1⟩
  obtain ⟨_, _, _, _, _, hB1⟩ := h1
  go_wp2_with (go_at_call 42; refine (four_any _ (hG.below hB1 hG.lt)).mono ?_; rintro e w2 ⟨rfl, hb2⟩)
  go_ret
  exact ⟨rfl, hB1.trans (hb2.mono hB1.size)⟩

theorem gp_drew {w : World} (h : GPow w) : GPow w.drew := h.below ((Below.refl _ w).drew) h.lt
theorem Mine.cell {W w : World} {tb : Nat} {rows : List (ByteArray × ByteArray)} (h : Mine W tb rows w) {p : Addr} (hp : p.block < W.heap.size) : w.cell? p = W.cell? p := by
  obtain ⟨_, _, _, _, _, hB⟩ := h
  exact hB.cell hp
theorem Mine.bel {W w : World} {tb : Nat} {rows : List (ByteArray × ByteArray)} (h : Mine W tb rows w) : Below W.heap.size W w := by
  obtain ⟨_, _, _, _, _, hB⟩ := h
  exact hB
theorem Mine.srt {W w : World} {tb : Nat} {rows : List (ByteArray × ByteArray)} (h : Mine W tb rows w) : Srt rows := by
  obtain ⟨_, _, h1, _⟩ := h
  exact h1.srt
theorem Mine.alloc {W w : World} {tb : Nat} {rows : List (ByteArray × ByteArray)} (h : Mine W tb rows w) (o : Obj) : Mine W tb rows (w.alloc o) := h.below ((Below.refl _ w).alloc (Nat.le_refl _) o)
theorem keep4 {W w w' : World} {B : Nat} {v : Value} (hb : Below w.drew.heap.size w.drew w') (h0 : w.cell? ⟨B, 2, none⟩ = some v) (h1 : GPow w) (h2 : Below W.heap.size W w) (h3 : B < w.heap.size) :
    w'.cell? ⟨B, 2, none⟩ = some v ∧ GPow w' ∧ Below W.heap.size W w' ∧ B < w'.heap.size :=
  ⟨(hb.cell (p := ⟨B, 2, none⟩) h3).trans h0, (gp_drew h1).below hb (gp_drew h1).lt, h2.drew.trans (hb.mono h2.size), Nat.lt_of_lt_of_le h3 hb.size⟩
/-- the operation's own box -/
structure Box4 (W : World) (B : Nat) (o : OpT) : Prop where
  lt : B < W.heap.size
  c0 : W.cell? ⟨B, 0, none⟩ = some (.int .i64 o.1)
  c1 : W.cell? ⟨B, 1, none⟩ = some (.string o.2.1)
  c2 : W.cell? ⟨B, 2, none⟩ = some (.string o.2.2.1)
  c3 : W.cell? ⟨B, 3, none⟩ = some (.string o.2.2.2)
theorem Box4.mine {W w : World} {B tb : Nat} {o : OpT} {rows : List (ByteArray × ByteArray)} (h : Box4 W B o) (hm : Mine W tb rows w) :
    w.cell? ⟨B, 0, none⟩ = some (.int .i64 o.1) ∧ w.cell? ⟨B, 1, none⟩ = some (.string o.2.1) ∧ w.cell? ⟨B, 2, none⟩ = some (.string o.2.2.1) ∧ w.cell? ⟨B, 3, none⟩ = some (.string o.2.2.2) :=
  ⟨(hm.cell (p := ⟨B, 0, none⟩) h.lt).trans h.c0, (hm.cell (p := ⟨B, 1, none⟩) h.lt).trans h.c1, (hm.cell (p := ⟨B, 2, none⟩) h.lt).trans h.c2, (hm.cell (p := ⟨B, 3, none⟩) h.lt).trans h.c3⟩

def RRel (l : List OpT) (W : World) (tb : Nat) (i : Value) (wr : World) : Prop := ∃ k : Nat, k ≤ l.length ∧ i = .int .i64 k ∧ Mine W tb (runs (l.take k)) wr

set_option maxHeartbeats 4000000 in
theorem reads_main (v0 : Value) (l : List OpT) (o : OpT) (w : World) (h : SlC encOp 4 w v0 l) (hG : GPow w) (hl : l.length ≤ 200) :
    Calls Tryd.prog 8 #[v0, .agg #[.int .i64 o.1, .string o.2.1, .string o.2.2.1, .string o.2.2.2]] w fun e w' => e = .returned (.bool true) ∧ Below w.heap.size w w' := by
  have hB0 : Below w.heap.size w (w.alloc (.cells #[.int .i64 o.1, .string o.2.1, .string o.2.2.1, .string o.2.2.2] 47)) := (Below.refl _ w).alloc (Nat.le_refl _) _
  have hs0 := h.below hB0
  have hG0 := hG.below hB0 hG.lt
  have hbox : Box4 (w.alloc (.cells #[.int .i64 o.1, .string o.2.1, .string o.2.2.1, .string o.2.2.2] 47)) w.heap.size o := ⟨by simp, by simp, by simp, by simp, by simp⟩
  obtain ⟨A, c, rfl, hl2, hcl⟩ := hs0
  clear h hG
  go_enter Tryd.func8, Tryd.ntmps8
  go_wp2_with fail
  generalize w.alloc (.cells #[.int .i64 o.1, .string o.2.1, .string o.2.2.1, .string o.2.2.2] 47) = W at hB0 hG0 hbox hcl ⊢
  refine (new_mine W W (Below.refl _ _)).mono ?_
  rintro e w1 ⟨rfl, h1⟩
  generalize W.heap.size = tb at h1 ⊢
  have HC := Lib.hid hcl
  clear hcl
  go_wp2_with fail
  go_loopw [7, 28] (fun _ i wr => RRel l W tb i wr) (fun _ i _ => l.length - (intOf i).toNat)
  case atStart => exact ⟨0, by omega, rfl, h1⟩
  case round =>
    obtain ⟨k, hk, rfl, hm⟩ := hrel
    clear h1
    by_cases hlt : k < l.length
    · obtain ⟨b, off, rfl, hbl, hcell⟩ := HC.out (by omega)
      have hx : l[k]? = some l[k] := List.getElem?_eq_getElem hlt
      obtain ⟨x, hxe⟩ : ∃ x, l[k] = x := ⟨_, rfl⟩
      rw [hxe] at hx
      have d0 := (hm.cell (p := ⟨b, off + k * 4 + 0, none⟩) hbl).trans (hcell k x hx 0 _ rfl)
      have d1 := (hm.cell (p := ⟨b, off + k * 4 + 1, none⟩) hbl).trans (hcell k x hx 1 _ rfl)
      have d2 := (hm.cell (p := ⟨b, off + k * 4 + 2, none⟩) hbl).trans (hcell k x hx 2 _ rfl)
      have d3 := (hm.cell (p := ⟨b, off + k * 4 + 3, none⟩) hbl).trans (hcell k x hx 3 _ rfl)
      rw [Nat.add_zero] at d0
      have HR := Lib.hid (runs_succ l k x hx)
      clear hcell hx hxe
      go_wp2_with fail
      refine (do_mine (rfl : tdo _ _ _ _ _ = (_, _, _)) (hm.alloc _) (runs_fine _).short).mono ?_
      rintro e w2 ⟨rfl, h2⟩
      go_wp2_with fail
      go_roundw
      case rel => exact ⟨k + 1, by omega, by go_num, by rw [HR.out]; exact h2⟩
      case measure => simp [intOf]; omega
    · obtain rfl : k = l.length := by omega
      rw [List.take_length] at hm
      have hF := runs_fine l
      have hS := hm.srt
      have HF := Lib.hid hF
      have HS := Lib.hid hS
      generalize runs l = rows at hm HF HS
      clear hF hS HC
      go_wp2_with fail
      refine (text_mine rfl hm HF.out hG0).mono ?_
      rintro e w2 ⟨rfl, h2⟩
      obtain ⟨b0, b1, b2, b3⟩ := hbox.mine h2
      go_wp2_with fail
      obtain ⟨⟨rows', told, e0⟩, hT⟩ : ∃ t, tdo rows o.1 o.2.1 o.2.2.1 o.2.2.2 = t := ⟨_, rfl⟩
      have hF3 : Fine rows' := by have h9 := tdo_fine (k := o.1) (key := o.2.1) (v := o.2.2.1) (old := o.2.2.2) HF.out; rw [hT] at h9; exact h9
      have HF3 := Lib.hid hF3
      have HTT := Lib.hid hT
      refine (do_mine hT h2 HF.out.short).mono ?_
      clear hF3 hT
      rintro e w3 ⟨rfl, h3⟩
      obtain ⟨b0, b1, b2, b3⟩ := hbox.mine h3
      by_cases he : e0 = 0
      · subst he
        have hrb := read_back HS.out HTT.out
        obtain ⟨k, key, v, old⟩ := o
        simp only at b0 b1 b2 b3 hrb
        rcases hrb with ⟨rfl, rfl, hb⟩ | ⟨hk, hb⟩ | ⟨rfl, ⟨pre, rfl⟩, h64, hb⟩ | ⟨rfl, hb⟩
        · have HBK := Lib.hid hb
          clear hb
          go_wp2_with fail
          refine (do_mine HBK.out h3 HF3.out.short).mono ?_
          rintro e w4 ⟨rfl, h4⟩
          obtain ⟨b0, b1, b2, b3⟩ := hbox.mine h4
          go_wp2_with (first
            | (go_at_call 44; refine (text_mine rfl h4 HF3.out hG0).mono ?_; rintro e w5 ⟨rfl, h5⟩)
            | (go_at_call 42; refine (four_any _ (hG0.below h5.bel hG0.lt)).mono ?_; rintro e w6 ⟨rfl, hb6⟩; have hB6 := (hB0.trans (h5.bel.mono hB0.size)).trans (hb6.mono (by have := h5.bel.size; have := hB0.size; omega)); clear hb6))
          go_ret
          exact ⟨rfl, hB6⟩
        · have HBK := Lib.hid hb
          clear hb
          go_wp2_with fail
          refine (do_mine HBK.out h3 HF3.out.short).mono ?_
          rintro e w4 ⟨rfl, h4⟩
          obtain ⟨b0, b1, b2, b3⟩ := hbox.mine h4
          rcases hk with rfl | rfl
          all_goals
            go_wp2_with (go_at_call 42; refine (four_any _ (hG0.below h4.bel hG0.lt)).mono ?_; rintro e w6 ⟨rfl, hb6⟩; have hB6 := (hB0.trans (h4.bel.mono hB0.size)).trans (hb6.mono (by have := h4.bel.size; have := hB0.size; omega)); clear hb6)
            go_ret
            exact ⟨rfl, hB6⟩
        · have HBK := Lib.hid hb
          clear hb
          go_wp2_with fail
          refine (do_mine HBK.out h3 HF3.out.short).mono ?_
          rintro e w4 ⟨rfl, h4⟩
          obtain ⟨b0, b1, b2, b3⟩ := hbox.mine h4
          go_wp2_with fail
          have hsz : v.size ≤ 64 ∧ pre.size ≤ 64 := by
            rw [ByteArray.size_append] at h64
            omega
          have hx1 : (pre ++ v).size = pre.size + v.size := ByteArray.size_append
          have hx2 : (pre ++ v).extract pre.size (pre ++ v).size = v := by
            rw [hx1]; exact ByteArray.extract_append_eq_right rfl rfl
          generalize pre ++ v = T at HTT HBK hx1 hx2 ⊢
          have hcell2 := b2
          have hB4 : Below w.heap.size w w4 := hB0.trans (h4.bel.mono hB0.size)
          have hW4 := h4.bel
          have hG4 := hG0.below h4.bel hG0.lt
          have hS4 : w4.cell? ⟨w.heap.size, 2, none⟩ = some (.string v) ∧ GPow w4 ∧ Below w.heap.size w w4 ∧ w.heap.size < w4.heap.size := ⟨b2, hG4, hB4, Nat.lt_of_lt_of_le hbox.lt h4.bel.size⟩
          clear b0 b1 b2 b3 hcell2 hW4 hG4 h4 h3 h2 hbox hB4 HBK HTT HF3 HF HS hm
          have e1 : IntKind.i64.wrap ((T.size : Int) - (v.size : Int)) = ((pre.size : Nat) : Int) := by rw [IntWalk.i64_in _ (by omega)]; omega
          have e2 : (0 : Int) ≤ ((pre.size : Nat) : Int) := by omega
          have e3 : ((v.size : Nat) : Int) ≤ ((T.size : Nat) : Int) := by omega
          have e4 : pre.size ≤ T.size := by omega
          have e5 : decide (((v.size : Nat) : Int) ≤ ((T.size : Nat) : Int)) = true := by simpa using e3
          clear hx1 hsz
          obtain ⟨h0, h1, h2, h3⟩ := hS4
          go_region_held3 (fun w' => w'.cell? ⟨w.heap.size, 2, none⟩ = some (.string v) ∧ GPow w' ∧ Below w.heap.size w w' ∧ w.heap.size < w'.heap.size)
            (first | exact ⟨h0, h1, h2, h3⟩ | exact ⟨h0, gp_drew h1, h2.drew, h3⟩ | assumption | exact hF6)
            (first | (go_at_call 42; refine (four_any _ (gp_drew h1)).mono ?_; rintro e w6 ⟨rfl, hb6⟩; have hF6 := keep4 hb6 h0 h1 h2 h3))
          go_wp2
          go_ret
          exact ⟨rfl, hF6.2.2.1⟩
        · have HBK := Lib.hid hb
          clear hb
          go_wp2_with fail
          refine (do_mine HBK.out h3 HF3.out.short).mono ?_
          rintro e w4 ⟨rfl, h4⟩
          obtain ⟨b0, b1, b2, b3⟩ := hbox.mine h4
          go_wp2_with (go_at_call 42; refine (four_any _ (hG0.below h4.bel hG0.lt)).mono ?_; rintro e w6 ⟨rfl, hb6⟩; have hB6 := (hB0.trans (h4.bel.mono hB0.size)).trans (hb6.mono (by have := h4.bel.size; have := hB0.size; omega)); clear hb6)
          go_ret
          exact ⟨rfl, hB6⟩
      · obtain ⟨e1, e2⟩ := tdo_err (rows := rows) (k := o.1) (key := o.2.1) (v := o.2.2.1) (old := o.2.2.2) (by rw [HTT.out]; exact he)
        rw [HTT.out] at e1 e2
        simp only at e1 e2
        subst e1 e2
        have hne : (e0 != 0) = true := by simpa using he
        clear he
        go_wp2_with (first
          | (go_at_call 44; refine (text_mine rfl h3 HF3.out hG0).mono ?_; rintro e w5 ⟨rfl, h5⟩)
          | (go_at_call 42; refine (four_any _ (hG0.below h5.bel hG0.lt)).mono ?_; rintro e w6 ⟨rfl, hb6⟩; have hB6 := (hB0.trans (h5.bel.mono hB0.size)).trans (hb6.mono (by have := h5.bel.size; have := hB0.size; omega)); clear hb6))
        go_ret
        exact ⟨rfl, hB6⟩
theorem reads_any (v0 : Value) (l : List OpT) (o : OpT) (w : World) (h : SlC encOp 4 w v0 l) (hG : GPow w) :
    Calls Tryd.prog 8 #[v0, .agg #[.int .i64 o.1, .string o.2.1, .string o.2.2.1, .string o.2.2.2]] w fun e w' => e = .returned (.bool true) ∧ Below w.heap.size w w' := by
  by_cases hl : l.length ≤ 200
  · exact reads_main v0 l o w h hG hl
  · exact reads_long v0 l o w h hG (by omega)
end Go.Proofs.YtljpjckklkpipaaDoor.Tw
