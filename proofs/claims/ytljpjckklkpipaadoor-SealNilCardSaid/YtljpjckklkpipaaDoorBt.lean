/- The walk of blake.turn. -/
import Derived.Test.YtljpjckklkpipaaDoorBk
import Derived.Test.YtljpjckklkpipaaDoorBa
import Derived.Deep.DeepCutAuto
import Derived.IntWalk
import Derived.Deep.DrawnRows
namespace Go.Proofs.YtljpjckklkpipaaDoor.Bt
open Go.RowKit Wd Bl Ba Bk
set_option maxRecDepth 100000
attribute [local go_sem ↓] Go.wp_at_zero Go.wp_at_succ

def fillA (l : Ln) : Nat → Array Value
  | 0 => #[.int .u32 0, .int .u32 0, .int .u32 0, .int .u32 0]
  | 1 => #[wv l.a, .int .u32 0, .int .u32 0, .int .u32 0]
  | 2 => #[wv l.a, wv l.b, .int .u32 0, .int .u32 0]
  | 3 => #[wv l.a, wv l.b, wv l.c, .int .u32 0]
  | _ => #[wv l.a, wv l.b, wv l.c, wv l.d]
/-- the four cells of a lane -/
def L4 (w : World) (lb : Nat) (a b c d : Value) : Prop :=
  w.cell? ⟨lb, 0, none⟩ = some a ∧ w.cell? ⟨lb, 1, none⟩ = some b ∧ w.cell? ⟨lb, 2, none⟩ = some c ∧ w.cell? ⟨lb, 3, none⟩ = some d ∧
  w.frozen? ⟨lb, 0, none⟩ = false ∧ w.frozen? ⟨lb, 1, none⟩ = false ∧ w.frozen? ⟨lb, 2, none⟩ = false ∧ w.frozen? ⟨lb, 3, none⟩ = false
theorem keepS {w1 w' : World} {lb : Nat} {a b c d : Value} (hb : Below w1.heap.size w1 w') (hl : lb < w1.heap.size) (h : Hid (L4 w1 lb a b c d)) :
    w'.cell? ⟨lb, 0, none⟩ = some a ∧ w'.cell? ⟨lb, 1, none⟩ = some b ∧ w'.cell? ⟨lb, 2, none⟩ = some c ∧ w'.cell? ⟨lb, 3, none⟩ = some d ∧
    w'.frozen? ⟨lb, 0, none⟩ = false ∧ w'.frozen? ⟨lb, 1, none⟩ = false ∧ w'.frozen? ⟨lb, 2, none⟩ = false ∧ w'.frozen? ⟨lb, 3, none⟩ = false ∧ Below w1.heap.size w1 w' := by
  obtain ⟨l0, l1, l2, l3, f0, f1, f2, f3⟩ := h.out
  exact ⟨(hb.cell (p := ⟨lb, 0, none⟩) hl).trans l0, (hb.cell (p := ⟨lb, 1, none⟩) hl).trans l1, (hb.cell (p := ⟨lb, 2, none⟩) hl).trans l2, (hb.cell (p := ⟨lb, 3, none⟩) hl).trans l3,
    (hb.frozen (p := ⟨lb, 0, none⟩) hl).trans f0, (hb.frozen (p := ⟨lb, 1, none⟩) hl).trans f1, (hb.frozen (p := ⟨lb, 2, none⟩) hl).trans f2, (hb.frozen (p := ⟨lb, 3, none⟩) hl).trans f3, hb⟩
/-- a lane put back as far as k -/
def putP (v : List Nat) (i p : Nat) (l : Ln) : Nat → List Nat
  | 0 => v
  | 1 => v.set i l.a
  | 2 => (v.set i l.a).set (4 + (i + p) % 4) l.b
  | 3 => ((v.set i l.a).set (4 + (i + p) % 4) l.b).set (8 + (i + 2 * p) % 4) l.c
  | _ => putLn v i p l
theorem putP_length (v : List Nat) (i p : Nat) (l : Ln) (k : Nat) : (putP v i p l k).length = v.length := by
  unfold putP
  split <;> simp [putLn]
def PRel (lb vb : Nat) (G : Ln) (V : List Nat) (i p : Nat) (w : World) (j : Value) (wr : World) : Prop :=
  ∃ k : Nat, k ≤ 4 ∧ j = .int .i64 k ∧ Blk wr lb 293 #[wv G.a, wv G.b, wv G.c, wv G.d] ∧ Row wr vb 277 (putP V i p G k) ∧ w.grownBy wr (some vb)
theorem pstep {lb vb : Nat} {G : Ln} {V v1 : List Nat} {i p k : Nat} {w wr : World} (hk : k + 1 ≤ 4) (hL3 : Blk wr lb 293 #[wv G.a, wv G.b, wv G.c, wv G.d]) (hV3 : Row wr vb 277 v1) (hg3 : w.grownBy wr (some vb)) (hlv : lb ≠ vb) (idx x : Nat) (hset : v1.set idx x = putP V i p G (k + 1)) (j : Int) (hj : j = ((k + 1 : Nat) : Int)) :
    PRel lb vb G V i p w (.int .i64 j) (wr.setCell ⟨vb, idx, none⟩ (.int .u32 (x : Int))).drew := by
  subst hj
  have h1 := Row.put hV3 idx x
  rw [hset] at h1
  exact ⟨k + 1, hk, rfl, Blk.drew (Blk.far hL3 (p := ⟨vb, idx, none⟩) hlv _), Blk.drew h1, grown_trans (grown_trans hg3 (grown_set _ _ _ _)) (grown_drew _ _)⟩
/-- what a round of the outer loop keeps -/
def ORel (M : List Nat) (row : ByteArray) (t p vb : Nat) (v : List Nat) (w : World) (i : Value) (wr : World) : Prop :=
  ∃ k : Nat, k ≤ 4 ∧ i = .int .i64 k ∧ Row wr vb 277 (turnN M row.data.toList t p v k) ∧ w.grownBy wr (some vb)
set_option maxHeartbeats 2000000 in
theorem turn0_any (vb mb : Nat) (M v : List Nat) (row : ByteArray) (w : World) (hM : Row w mb 275 M) (hMl : M.length = 16) (hV : Row w vb 277 v) (hvl : v.length = 16) (hvw : Ws v) (hr : Hex row) :
    Calls Tryd.prog 158 #[.pointer (some ⟨vb, 0, none⟩), .pointer (some ⟨mb, 0, none⟩), .string row, .int .i64 0, .int .i64 0] w fun e w' =>
      e = .returned (.tuple #[]) ∧ Row w' vb 277 (turnN M row.data.toList 0 0 v 4) ∧ w.grownBy w' (some vb) := by
  have hne : mb ≠ vb := Blk.ne hM hV (by decide)
  go_enter Tryd.func158, Tryd.ntmps158
  go_wp2_with fail
  go_loopw [14] (fun i wr => ORel M row 0 0 vb v w i wr) (fun i _ => 4 - (intOf i).toNat)
  case atStart => exact ⟨0, by omega, rfl, hV, ⟨rfl, rfl, rfl, Nat.le_refl _, fun _ _ _ => rfl⟩⟩
  case round =>
    obtain ⟨i, hi, rfl, hv, hg⟩ := hrel
    have hM' : Row wr mb 275 M := Blk.grown hM hg (by simp; exact hne)
    have hvl' := turnN_length M row.data.toList 0 0 v i
    rw [hvl] at hvl'
    have hvw' := Ws.turn_ hvw M row.data.toList 0 0 i
    by_cases hlt : i < 4
    · have HS : Hid (turnN M row.data.toList 0 0 v (i + 1) = stepN M row.data.toList 0 0 (turnN M row.data.toList 0 0 v i) i) := rfl
      generalize turnN M row.data.toList 0 0 v i = V at hv hvl' hvw' HS
      obtain ⟨L, hL⟩ : ∃ L, lane V i 0 = L := ⟨_, rfl⟩
      have i4 : i % 4 = i := Nat.mod_eq_of_lt hlt
      have la : V[i % 4]?.getD 0 = L.a := by rw [← hL, i4]; rfl
      have lb : V[4 + i % 4]?.getD 0 = L.b := by rw [← hL]; rfl
      have lc : V[8 + i % 4]?.getD 0 = L.c := by rw [← hL]; rfl
      have ld : V[12 + i % 4]?.getD 0 = L.d := by rw [← hL]; rfl
      have ca := Row.at_ hv (i := i % 4) (by omega)
      have cb := Row.at_ hv (i := 4 + i % 4) (by omega)
      have cc := Row.at_ hv (i := 8 + i % 4) (by omega)
      have cd := Row.at_ hv (i := 12 + i % 4) (by omega)
      rw [la] at ca
      rw [lb] at cb
      rw [lc] at cc
      rw [ld] at cd
      have LL := Lib.hid hL
      have hvb := Blk.lt hv
      clear la lb lc ld hL hvl hvw i4
      obtain ⟨wo, rfl⟩ : ∃ wo : World, wo = wr := ⟨_, rfl⟩
      go_wp2_with fail
      go_loopw [17] (fun j wr => ∃ k : Nat, k ≤ 4 ∧ j = .int .i64 k ∧ wr = wo.alloc (.cells (fillA L k) 293)) (fun j _ => 4 - (intOf j).toNat)
      case atStart => exact ⟨0, by omega, rfl, rfl⟩
      case round =>
        obtain ⟨k, hk, rfl, rfl⟩ := hrel
        have hk' : k = 0 ∨ k = 1 ∨ k = 2 ∨ k = 3 ∨ k = 4 := by omega
        rcases hk' with rfl | rfl | rfl | rfl | rfl
        · unfold fillA
          go_wp2_with fail
          go_roundw
          case rel => exact ⟨1, by omega, rfl, rfl⟩
          case measure => simp [intOf]
        · unfold fillA
          go_wp2_with fail
          go_roundw
          case rel => exact ⟨2, by omega, rfl, rfl⟩
          case measure => simp [intOf]
        · unfold fillA
          go_wp2_with fail
          go_roundw
          case rel => exact ⟨3, by omega, rfl, rfl⟩
          case measure => simp [intOf]
        · unfold fillA
          go_wp2_with fail
          go_roundw
          case rel => exact ⟨4, by omega, rfl, rfl⟩
          case measure => simp [intOf]
        · unfold fillA
          clear ca cb cc cd
          have hv2 : Row (wo.alloc (.cells #[wv L.a, wv L.b, wv L.c, wv L.d] 293)) vb 277 V := Blk.alloc hv _
          have hM2 : Row (wo.alloc (.cells #[wv L.a, wv L.b, wv L.c, wv L.d] 293)) mb 275 M := Blk.alloc hM' _
          have hL2 : Blk (wo.alloc (.cells #[wv L.a, wv L.b, wv L.c, wv L.d] 293)) wo.heap.size 293 #[wv L.a, wv L.b, wv L.c, wv L.d] := Blk.new wo _ _
          have hg2 : w.grownBy (wo.alloc (.cells #[wv L.a, wv L.b, wv L.c, wv L.d] 293)) (some vb) := grown_trans hg (World.grownBy_alloc _ _ _)
          have hlv : wo.heap.size ≠ vb := by omega
          have hlw : w.heap.size ≤ wo.heap.size := hg.size
          generalize wo.alloc (.cells #[wv L.a, wv L.b, wv L.c, wv L.d] 293) = w1 at hv2 hM2 hL2 hg2 ⊢
          generalize wo.heap.size = lb at hL2 hlv hlw ⊢
          obtain ⟨x, hx⟩ : ∃ x, wd M row.data.toList (0 + 2 * i) = x := ⟨_, rfl⟩
          obtain ⟨y, hy⟩ : ∃ y, wd M row.data.toList (0 + 2 * i + 1) = y := ⟨_, rfl⟩
          have hok : L.Ok := LL.out ▸ hvw'.lane_ i 0
          have dx : ∀ W (a : Int), a = ((0 + 2 * i : Nat) : Int) → Below w1.heap.size w1 W → Calls Tryd.prog 172 #[.pointer (some ⟨mb, 0, none⟩), .string row, .int .i64 a] W fun e w' => e = .returned (.int .u32 x) ∧ W = w' := fun W a ha hW =>
            ha ▸ hx ▸ digit_any mb M row (0 + 2 * i) W hr (by omega) (fun j hj => Row.at_ (Blk.below hM2 hW (Blk.lt hM2)) (by omega))
          have dy : ∀ W (a : Int), a = ((0 + 2 * i + 1 : Nat) : Int) → Below w1.heap.size w1 W → Calls Tryd.prog 172 #[.pointer (some ⟨mb, 0, none⟩), .string row, .int .i64 a] W fun e w' => e = .returned (.int .u32 y) ∧ W = w' := fun W a ha hW =>
            ha ▸ hy ▸ digit_any mb M row (0 + 2 * i + 1) W hr (by omega) (fun j hj => Row.at_ (Blk.below hM2 hW (Blk.lt hM2)) (by omega))
          have DX := Lib.hid dx
          have DY := Lib.hid dy
          have h1 : ∀ W, Calls Tryd.prog 171 #[.agg #[wv L.a, wv L.b, wv L.c, wv L.d], .int .u32 x, .int .i64 16, .int .i64 12] W fun e w' => e = .returned (Ln.val (L.half x 16 12)) ∧ Below W.heap.size W w' := half_any L x 16 12 hok (.inl rfl) (.inr (.inl rfl))
          obtain ⟨G, hG⟩ : ∃ G, gL L x y = G := ⟨_, rfl⟩
          have h2 : ∀ W, Calls Tryd.prog 171 #[Ln.val (L.half x 16 12), .int .u32 y, .int .i64 8, .int .i64 7] W fun e w' => e = .returned (.agg #[wv G.a, wv G.b, wv G.c, wv G.d]) ∧ Below W.heap.size W w' := by
            subst hG
            exact half_any (L.half x 16 12) y 8 7 (hok.half x (.inl rfl) (.inr (.inl rfl))) (.inr (.inr (.inl rfl))) (.inr (.inr (.inr rfl)))
          have H1 := Lib.hid h1
          have H2 := Lib.hid h2
          have HX := Lib.hid hx
          have HG := Lib.hid hG
          have HY := Lib.hid hy
          have HM2 := Lib.hid hM2
          have HV2 := Lib.hid hv2
          have l4 : L4 w1 lb (wv L.a) (wv L.b) (wv L.c) (wv L.d) := ⟨Blk.cell hL2 0, Blk.cell hL2 1, Blk.cell hL2 2, Blk.cell hL2 3, Blk.free hL2 0, Blk.free hL2 1, Blk.free hL2 2, Blk.free hL2 3⟩
          have S4 := Lib.hid l4
          clear l4
          have hlb := Blk.lt hL2
          have HL2 := Lib.hid hL2
          clear dx dy h1 h2 hx hy hG hM hv hV hM' hM2 hv2 hL2 hvb
          have e1 : IntKind.i64.wrap (2 * (i : Int)) = 2 * (i : Int) := by rw [IntWalk.i64_in _ (by omega)]
          have e2 : IntKind.i64.wrap (0 + 2 * (i : Int)) = 0 + 2 * (i : Int) := by rw [IntWalk.i64_in _ (by omega)]
          have e3 : IntKind.i64.wrap (0 + 2 * (i : Int) + 1) = 0 + 2 * (i : Int) + 1 := by rw [IntWalk.i64_in _ (by omega)]
          have e4 : IntKind.i64.wrap (2 * (i : Int) + 1) = 2 * (i : Int) + 1 := by rw [IntWalk.i64_in _ (by omega)]
          go_upto_region 9 with fail
          go_cut [52] (fun _ wx => Blk wx lb 293 #[wv G.a, wv G.b, wv G.c, wv G.d] ∧ Row wx vb 277 V ∧ w.grownBy wx (some vb))
          case first =>
            have hlf := S4.out
            obtain ⟨l0, l1, l2, l3, f0, f1, f2, f3⟩ := hlf
            go_region_with
              (first
                | (go_at_call 172; (with_reducible refine (DX.out _ _ ?_ ?_).mono ?_); (omega); (first | assumption | exact (Below.refl _ _).drew); rintro e w' ⟨rfl, rfl⟩)
                | (go_at_call 172; (with_reducible refine (DY.out _ _ ?_ ?_).mono ?_); (omega); (first | assumption | exact (Below.refl _ _).drew); rintro e w' ⟨rfl, rfl⟩)
                | (go_at_call 171; (with_reducible refine (H1.out _).mono ?_); rintro e w3 ⟨rfl, hb3⟩; have hB3 : Below w1.heap.size w1 w3 := (Below.refl _ w1).drew.trans hb3; clear hb3)
                | (go_at_call 171; (with_reducible refine (H2.out _).mono ?_); rintro e w4 ⟨rfl, hb4⟩; have hB4 : Below w1.heap.size w1 w4 := hB3.trans (hb4.mono hB3.size); clear hb4; obtain ⟨m0, m1, m2, m3, g0, g1, g2, g3, _⟩ := keepS hB4 hlb S4))
            all_goals
              go_wp2_with fail
              go_meet
              exact ⟨put4 (Blk.below HL2.out hB4 hlb) _ _ _ _, Blk.far (Blk.far (Blk.far (Blk.far (Blk.below HV2.out hB4 (Blk.lt HV2.out)) (p := ⟨lb, 0, none⟩) (Ne.symm hlv) _) (p := ⟨lb, 1, none⟩) (Ne.symm hlv) _) (p := ⟨lb, 2, none⟩) (Ne.symm hlv) _) (p := ⟨lb, 3, none⟩) (Ne.symm hlv) _,
                grown_far (grown_far (grown_far (grown_far (grown_then hg2 hB4) (p := ⟨lb, 0, none⟩) hlw _) (p := ⟨lb, 1, none⟩) hlw _) (p := ⟨lb, 2, none⟩) hlw _) (p := ⟨lb, 3, none⟩) hlw _⟩
          case rest =>
            obtain ⟨hcL, hcV, hcg⟩ := hcut
            clear e1 e2 e3 e4 S4 HL2 H1 H2 DX DY HM2 HV2 hg hg2
            go_wp2_with fail
            go_loopw [53] (fun j wr => PRel lb vb G V i 0 w j wr) (fun j _ => 4 - (intOf j).toNat)
            case atStart => exact ⟨0, by omega, rfl, hcL, hcV, hcg⟩
            case round =>
              obtain ⟨k, hk, rfl, hL3, hV3, hg3⟩ := hrel
              clear hcL hcV hcg
              have hk' : k = 0 ∨ k = 1 ∨ k = 2 ∨ k = 3 ∨ k = 4 := by omega
              have hlen := putP_length V i 0 G k
              rw [hvl'] at hlen
              rcases hk' with rfl | rfl | rfl | rfl | rfl
              · have c0 : wr.cell? ⟨lb, 0, none⟩ = some (wv G.a) := Blk.cell hL3 0
                have c1 := Row.at_ hV3 (i := i % 4) (by omega)
                have f1 : wr.frozen? ⟨vb, i % 4, none⟩ = false := Blk.free hV3 _
                go_wp2_with fail
                go_region
                all_goals
                  go_wp2_with fail
                  go_roundw
                  case rel => exact pstep (k := 0) (by omega) hL3 hV3 hg3 hlv _ _ (by rw [Nat.mod_eq_of_lt hlt]; rfl) _ rfl
                  case measure => simp [intOf]
              · have c0 : wr.cell? ⟨lb, 1, none⟩ = some (wv G.b) := Blk.cell hL3 1
                have c1 := Row.at_ hV3 (i := 4 + i % 4) (by omega)
                have f1 : wr.frozen? ⟨vb, 4 + i % 4, none⟩ = false := Blk.free hV3 _
                go_wp2_with fail
                go_region
                all_goals
                  go_wp2_with fail
                  go_roundw
                  case rel => exact pstep (k := 1) (by omega) hL3 hV3 hg3 hlv _ _ (rfl) _ rfl
                  case measure => simp [intOf]
              · have c0 : wr.cell? ⟨lb, 2, none⟩ = some (wv G.c) := Blk.cell hL3 2
                have c1 := Row.at_ hV3 (i := 8 + i % 4) (by omega)
                have f1 : wr.frozen? ⟨vb, 8 + i % 4, none⟩ = false := Blk.free hV3 _
                go_wp2_with fail
                go_region
                all_goals
                  go_wp2_with fail
                  go_roundw
                  case rel => exact pstep (k := 2) (by omega) hL3 hV3 hg3 hlv _ _ (rfl) _ rfl
                  case measure => simp [intOf]
              · have c0 : wr.cell? ⟨lb, 3, none⟩ = some (wv G.d) := Blk.cell hL3 3
                have c1 := Row.at_ hV3 (i := 12 + i % 4) (by omega)
                have f1 : wr.frozen? ⟨vb, 12 + i % 4, none⟩ = false := Blk.free hV3 _
                go_wp2_with fail
                go_region
                all_goals
                  go_wp2_with fail
                  go_roundw
                  case rel => exact pstep (k := 3) (by omega) hL3 hV3 hg3 hlv _ _ (rfl) _ rfl
                  case measure => simp [intOf]
              · go_wp2_with fail
                go_roundw
                case rel =>
                  refine ⟨i + 1, by omega, by go_num, ?_, hg3⟩
                  rw [HS.out]
                  unfold stepN
                  rw [LL.out, HX.out, HY.out, HG.out]
                  exact hV3
                case measure => simp [intOf]; omega
    · obtain rfl : i = 4 := by omega
      go_wp2_with fail
      go_end0
      exact ⟨rfl, hv, hg⟩
end Go.Proofs.YtljpjckklkpipaaDoor.Bt
