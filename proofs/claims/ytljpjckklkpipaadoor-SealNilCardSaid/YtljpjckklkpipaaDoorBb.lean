/- The walk of blake's block. -/
import Derived.Test.YtljpjckklkpipaaDoorBu
import Derived.Test.YtljpjckklkpipaaDoorBm
import Derived.Deep.MidRow
import Derived.BigRegion
namespace Go.Proofs.YtljpjckklkpipaaDoor.Bt
open Go.RowKit Wd Bl Ba Bk
set_option maxRecDepth 100000
attribute [local go_sem ↓] Go.wp_at_zero Go.wp_at_succ

/-- the tables that the sum reads -/
structure GBl (w : World) : Prop where
  lt : 2 ≤ w.heap.size
  start : w.rangeAt 0 0 (iv.map fun (x : Nat) => Value.int .u32 (x : Int))
  rows : w.rangeAt 1 0 (rowsL.map fun r => Value.string ⟨r.toArray⟩)
theorem GBl.below {w w' : World} {B : Nat} (h : GBl w) (hb : Below B w w') (hB : 2 ≤ B) : GBl w' :=
  ⟨Nat.le_trans h.lt hb.size, fun j v hv => (hb.cell (p := ⟨0, 0 + j, none⟩) (by show 0 < B; omega)).trans (h.start j v hv), fun j v hv => (hb.cell (p := ⟨1, 0 + j, none⟩) (by show 1 < B; omega)).trans (h.rows j v hv)⟩
/-- a block's bytes -/
def bytesA (b : List Nat) : Array Value := (b.map fun (x : Nat) => Value.int .u8 (x : Int)).toArray
/-- h0 to h7, and the count -/
def stA (h : List Nat) (t : Nat) : Array Value := ((h.map fun (x : Nat) => Value.int .u32 (x : Int)) ++ [Value.int .u64 (t : Int)]).toArray
theorem stA_h (h : List Nat) (t i : Nat) (hi : i < h.length) : (stA h t)[i]? = some (.int .u32 ((el h i : Nat) : Int)) := by
  unfold stA
  rw [List.getElem?_toArray, List.getElem?_append_left (by simpa using hi), List.getElem?_map, List.getElem?_eq_getElem hi]
  simp [el, List.getElem?_eq_getElem hi]
theorem stA_t (h : List Nat) (t : Nat) (hl : h.length = 8) : (stA h t)[8]? = some (.int .u64 (t : Int)) := by
  unfold stA
  rw [List.getElem?_toArray, List.getElem?_append_right (by simp [hl])]
  simp [hl]
theorem stA_seth (h : List Nat) (t i x : Nat) (hi : i < h.length) : (stA h t).setIfInBounds i (.int .u32 (x : Int)) = stA (h.set i x) t := by
  unfold stA
  rw [List.setIfInBounds_toArray, List.set_append_left _ _ (by simpa using hi), List.map_set]
theorem stA_sett (h : List Nat) (t t' : Nat) (hl : h.length = 8) : (stA h t).setIfInBounds 8 (.int .u64 (t' : Int)) = stA h t' := by
  unfold stA
  rw [List.setIfInBounds_toArray, List.set_append_right _ _ (by simp [hl])]
  simp [hl]
theorem run_index_in {P : Program} (t e : TypeId) (n : Nat) (cs : Array Value) (i : Nat) (v : Value) (ht : P.underlying t = some (.array n e)) (d : TypeDesc) (he : P.underlying e = some d) (hd : (match d with | .struct _ | .array _ _ => true | _ => false) = false) (hs : (P.info? e).map (·.size) = some 1) (hi : i < n) (hv : cs[i]? = some v) (w : World) :
    (Instr.index t (.agg cs) (.int .i64 (i : Int))).run P w = .ok v w := by
  obtain ⟨j, hj, hjs⟩ := Option.map_eq_some_iff.1 hs
  have hagg : (isAgg e).run P w = .ok false w := by
    unfold isAgg
    rw [Sem.run_bind, run_underlying he w]
    cases d <;> simp_all
  have hsz : (sizeOf e).run P w = .ok 1 w := by simp [sizeOf, typeInfo, hj, hjs]
  unfold Instr.index
  simp only [asIntOf, Sem.run_bind, Sem.run_pure, Result.andThen, run_underlying ht w]
  rw [if_pos ⟨by omega, by omega⟩]
  simp [Sem.run_bind, hsz, part, hagg, hv]

theorem size251 : (Tryd.prog.info? 251).map (·.size) = some 64 := by kernel_rfl
theorem size278 : (Tryd.prog.info? 278).map (·.size) = some 10 := by kernel_rfl
theorem sizeStr : (Tryd.prog.info? 9).map (·.size) = some 1 := by kernel_rfl
theorem sizeU8 : (Tryd.prog.info? 5).map (·.size) = some 1 := by kernel_rfl
theorem mwd_zero (b : List Nat) : wordsA (mwd b 0) = #[.int .u32 0, .int .u32 0, .int .u32 0, .int .u32 0, .int .u32 0, .int .u32 0, .int .u32 0, .int .u32 0, .int .u32 0, .int .u32 0, .int .u32 0, .int .u32 0, .int .u32 0, .int .u32 0, .int .u32 0, .int .u32 0] := by
  have e : mpart b 0 = fun _ => 0 := by
    funext k
    simp [mpart]
  unfold mwd
  rw [e]
  rfl
/-- what the loop over the bytes keeps -/
def MRel (b : List Nat) (mb : Nat) (w : World) (i : Value) (wr : World) : Prop :=
  ∃ k : Nat, k ≤ 64 ∧ i = .int .i64 k ∧ Row wr mb 275 (mwd b k) ∧ Below w.heap.size w wr
theorem or_byte (y x P : Nat) (hP : P = 256 ^ 0 ∨ P = 256 ^ 1 ∨ P = 256 ^ 2 ∨ P = 256 ^ 3) (hy : y < P) (hx : x < 256) : bits .or .u32 (y : Int) ((x : Int) * (P : Int)) = ((y + x * P : Nat) : Int) := by
  have key : ∀ s : Nat, y < 2 ^ s → x * 2 ^ s < 4294967296 → y < 4294967296 → bits .or .u32 (y : Int) ((x * 2 ^ s : Nat) : Int) = ((y + x * 2 ^ s : Nat) : Int) := by
    intro s h1 h2 h3
    rw [u32_or_nat _ _ h3 h2, Nat.or_comm, Nat.mul_comm x, ← Nat.two_pow_add_eq_or_of_lt h1 x, Nat.add_comm]
  have k0 := key 0
  have k1 := key 8
  have k2 := key 16
  have k3 := key 24
  simp only [Nat.reducePow, Nat.mul_one, Nat.pow_zero] at k0 k1 k2 k3
  simp only [Nat.reducePow] at hP
  rcases hP with rfl | rfl | rfl | rfl
  · have := k0 (by omega) (by omega) (by omega)
    simpa using this
  · exact k1 (by omega) (by omega) (by omega)
  · exact k2 (by omega) (by omega) (by omega)
  · exact k3 (by omega) (by omega) (by omega)
theorem mstep {b : List Nat} {mb k q v : Nat} {w wr : World} (hk : k < 64) (hM : Row wr mb 275 (mwd b k)) (hB : Below w.heap.size w wr) (hmb : w.heap.size ≤ mb) (hset : (mwd b k).set q v = mwd b (k + 1)) (z : Int) (hz : z = (v : Int)) :
    MRel b mb w (.int .i64 ((k : Int) + 1)) (wr.setCell ⟨mb, q, none⟩ (.int .u32 z)).drew := by
  subst hz
  have h1 := Row.put hM q v
  rw [hset] at h1
  exact ⟨k + 1, hk, by go_num, Blk.drew h1, (hB.setCell (p := ⟨mb, q, none⟩) hmb _).drew⟩
/-- what the rest of the block leaves -/
structure BS (w : World) (sb mb : Nat) (h b : List Nat) (T : Nat) (wr : World) : Prop where
  st : Blk wr sb 249 (stA h T)
  m : Row wr mb 275 (mwd b 64)
  g : GBl wr
  gr : w.grownBy wr (some sb)
theorem GBl.far {w : World} (h : GBl w) {p : Addr} (hp : 2 ≤ p.block) (u : Value) : GBl (w.setCell p u) :=
  ⟨by simpa [World.setCell] using h.lt, fun j v hv => (World.cell?_setCell_other w p _ u (fun e => by subst e; exact absurd hp (by show ¬ 2 ≤ 0; omega))).trans (h.start j v hv),
    fun j v hv => (World.cell?_setCell_other w p _ u (fun e => by subst e; exact absurd hp (by show ¬ 2 ≤ 1; omega))).trans (h.rows j v hv)⟩
theorem GBl.grown {w w' : World} (h : GBl w) {row : Option Nat} (hg : w.grownBy w' row) (hr : ∀ k, row = some k → 2 ≤ k) : GBl w' :=
  ⟨Nat.le_trans h.lt hg.size, fun j v hv => (World.cell?_of_block (hg.block 0 (by have := h.lt; omega) (fun e => by have := hr 0 e.symm; omega))).trans (h.start j v hv),
    fun j v hv => (World.cell?_of_block (hg.block 1 (by have := h.lt; omega) (fun e => by have := hr 1 e.symm; omega))).trans (h.rows j v hv)⟩
theorem BS.far {w wr : World} {sb mb : Nat} {h b : List Nat} {T : Nat} (H : BS w sb mb h b T wr) {p : Addr} (hp : w.heap.size ≤ p.block) (h1 : p.block ≠ sb) (h2 : p.block ≠ mb) (h3 : 2 ≤ p.block) (u : Value) : BS w sb mb h b T (wr.setCell p u) :=
  ⟨Blk.far H.st (Ne.symm h1) u, Blk.far H.m (Ne.symm h2) u, H.g.far h3 u, grown_far H.gr hp u⟩
theorem BS.drew {w wr : World} {sb mb : Nat} {h b : List Nat} {T : Nat} (H : BS w sb mb h b T wr) : BS w sb mb h b T wr.drew :=
  ⟨H.st, H.m, H.g.below ((Below.refl 2 wr).drew) (Nat.le_refl _), grown_trans H.gr (grown_drew _ _)⟩
theorem BS.grown {w wr w' : World} {sb mb vb : Nat} {h b : List Nat} {T : Nat} (H : BS w sb mb h b T wr) (hg : wr.grownBy w' (some vb)) (hp : w.heap.size ≤ vb) (h1 : vb ≠ sb) (h2 : vb ≠ mb) (h3 : 2 ≤ vb) : BS w sb mb h b T w' :=
  ⟨Blk.grown H.st hg (by simp; exact Ne.symm h1), Blk.grown H.m hg (by simp; exact Ne.symm h2), H.g.grown hg (fun k e => by injection e with e; omega),
    ⟨hg.os.trans H.gr.os, hg.tape.trans H.gr.tape, hg.output.trans H.gr.output, Nat.le_trans H.gr.size hg.size, fun k hk hn => (hg.block k (Nat.lt_of_lt_of_le hk H.gr.size) (fun e => by injection e with e; omega)).trans (H.gr.block k hk hn)⟩⟩
/-- the loop that fills the state -/
def VRel (w : World) (sb mb vb : Nat) (h b : List Nat) (T : Nat) (i : Value) (wr : World) : Prop :=
  ∃ k : Nat, k ≤ 8 ∧ i = .int .i64 k ∧ BS w sb mb h b T wr ∧ Row wr vb 277 (vpart h k)
theorem vpart_zero (h : List Nat) : wordsA (vpart h 0) = #[.int .u32 0, .int .u32 0, .int .u32 0, .int .u32 0, .int .u32 0, .int .u32 0, .int .u32 0, .int .u32 0, .int .u32 0, .int .u32 0, .int .u32 0, .int .u32 0, .int .u32 0, .int .u32 0, .int .u32 0, .int .u32 0] := by
  have e : vpart h 0 = (List.range 16).map fun _ => 0 := by
    unfold vpart
    apply List.map_congr_left
    intro j hj
    simp
    omega
  rw [e]
  rfl
theorem vstep {w wr : World} {sb mb vb k : Nat} {h b : List Nat} {T : Nat} (hk : k < 8) (H : BS w sb mb h b T wr) (hV : Row wr vb 277 (vpart h k)) (hp : w.heap.size ≤ vb) (h1 : vb ≠ sb) (h2 : vb ≠ mb) (h3 : 2 ≤ vb) (a1 a2 : Nat) (e1 : a1 = k) (e2 : a2 = 8 + k) :
    VRel w sb mb vb h b T (.int .i64 ((k : Int) + 1)) ((wr.setCell ⟨vb, a1, none⟩ (.int .u32 ((el h k : Nat) : Int))).setCell ⟨vb, a2, none⟩ (.int .u32 ((el iv k : Nat) : Int))).drew := by
  rw [e1, e2]
  have g1 := Row.put (Row.put hV k (el h k)) (8 + k) (el iv k)
  rw [vpart_set h k hk] at g1
  exact ⟨k + 1, hk, by go_num, ((H.far (p := ⟨vb, k, none⟩) hp h1 h2 h3 _).far (p := ⟨vb, 8 + k, none⟩) hp h1 h2 h3 _).drew, Blk.drew g1⟩
theorem not_eq (y : Nat) (hy : y < 4294967296) : bits .xor .u32 (4294967295 : Int) (y : Int) = ((4294967295 - y : Nat) : Int) := by
  have h1 : bits .xor .u32 ((4294967295 : Nat) : Int) (y : Int) = ((4294967295 ^^^ y : Nat) : Int) := u32_xor_nat _ _ (by omega) hy
  have h2 : 4294967295 ^^^ y = 4294967295 - y := by
    apply Nat.eq_of_testBit_eq
    intro i
    rw [Nat.testBit_xor, show 4294967295 - y = 2 ^ 32 - (y + 1) from by omega, Nat.testBit_two_pow_sub_succ (n := 32) (by simpa using hy), show (4294967295 : Nat) = 2 ^ 32 - 1 from rfl, Nat.testBit_two_pow_sub_one]
    by_cases h : i < 32
    · simp [h]
    · have : y.testBit i = false := Nat.testBit_lt_two_pow (Nat.lt_of_lt_of_le hy (by
        have := Nat.pow_le_pow_right (n := 2) (by omega) (show 32 ≤ i by omega)
        omega))
      simp [h, this]
  rw [← h2]
  exact h1
theorem el_set_ne (v : List Nat) (i j x : Nat) (h : i ≠ j) : el (v.set i x) j = el v j := by unfold el; rw [List.getElem?_set_ne h]
def CRel (w : World) (sb mb vb : Nat) (h b V : List Nat) (T : Nat) (wr : World) : Prop := BS w sb mb h b T wr ∧ Row wr vb 277 V
theorem CRel.step {w wr : World} {sb mb vb : Nat} {h b V V' : List Nat} {T : Nat} (H : CRel w sb mb vb h b V T wr) (hp : w.heap.size ≤ vb) (h1 : vb ≠ sb) (h2 : vb ≠ mb) (h3 : 2 ≤ vb) (i x : Nat) (z : Int) (hz : z = (x : Int)) (hs : V.set i x = V') :
    CRel w sb mb vb h b V' T (wr.setCell ⟨vb, i, none⟩ (.int .u32 z)) := by
  subst hz
  have h9 := Row.put H.2 i x
  rw [hs] at h9
  exact ⟨H.1.far (p := ⟨vb, i, none⟩) hp h1 h2 h3 _, h9⟩
theorem CRel.drew {w wr : World} {sb mb vb : Nat} {h b V : List Nat} {T : Nat} (H : CRel w sb mb vb h b V T wr) : CRel w sb mb vb h b V T wr.drew := ⟨H.1.drew, Blk.drew H.2⟩
def TRel (w : World) (sb mb vb : Nat) (h b V0 : List Nat) (T : Nat) (i : Value) (wr : World) : Prop :=
  ∃ k : Nat, k ≤ 10 ∧ i = .int .i64 k ∧ CRel w sb mb vb h b (roundsN (mwd b 64) V0 k) T wr
theorem rows_hex : ∀ k, k < 10 → Hex ⟨(rowsL[k]?.getD []).toArray⟩ := by
  intro k hk
  have h : ∀ r ∈ rowsL, r.length = 16 ∧ ∀ c ∈ r, (48 ≤ c.toNat ∧ c.toNat ≤ 57) ∨ (97 ≤ c.toNat ∧ c.toNat ≤ 102) := by decide
  have hl : k < rowsL.length := hk
  rw [List.getElem?_eq_getElem hl, Option.getD_some]
  obtain ⟨h1, h2⟩ := h _ (List.getElem_mem hl)
  exact ⟨by show (rowsL[k]).toArray.size = 16; simpa using h1, fun c hc => h2 c (by simpa using hc)⟩
theorem CRel.turned {w wr w' : World} {sb mb vb : Nat} {h b V V' : List Nat} {T : Nat} (H : CRel w sb mb vb h b V T wr) (hp : w.heap.size ≤ vb) (h1 : vb ≠ sb) (h2 : vb ≠ mb) (h3 : 2 ≤ vb) (hV : Row w' vb 277 V') (hg : wr.grownBy w' (some vb)) : CRel w sb mb vb h b V' T w' :=
  ⟨H.1.grown hg hp h1 h2 h3, hV⟩
/-- the loop that turns h -/
def HRel (w : World) (sb vb : Nat) (h V : List Nat) (T : Nat) (i : Value) (wr : World) : Prop :=
  ∃ k : Nat, k ≤ 8 ∧ i = .int .i64 k ∧ Blk wr sb 249 (stA (outpart h V k) T) ∧ Row wr vb 277 V ∧ w.grownBy wr (some sb)
theorem hstep {w wr : World} {sb vb k : Nat} {h V : List Nat} {T : Nat} (hk : k < 8) (hS : Blk wr sb 249 (stA (outpart h V k) T)) (hV : Row wr vb 277 V) (hg : w.grownBy wr (some sb)) (hvs : vb ≠ sb) (z : Int) (hz : z = ((el h k ^^^ (el V k ^^^ el V (8 + k)) : Nat) : Int)) :
    HRel w sb vb h V T (.int .i64 ((k : Int) + 1)) (wr.setCell ⟨sb, k, none⟩ (.int .u32 z)).drew := by
  subst hz
  have h1 := Blk.put hS k (.int .u32 ((el h k ^^^ (el V k ^^^ el V (8 + k)) : Nat) : Int))
  rw [stA_seth _ _ _ _ (by rw [outpart_length]; exact hk), outpart_set h V k hk] at h1
  exact ⟨k + 1, hk, by go_num, Blk.drew h1, Blk.drew (Blk.far hV (p := ⟨sb, k, none⟩) hvs _), grown_trans (grown_trans hg (grown_set _ _ _ _)) (grown_drew _ _)⟩
set_option maxHeartbeats 4000000 in
theorem block_any (sb : Nat) (h b : List Nat) (t c : Nat) (last : Bool) (w : World) (hS : Blk w sb 249 (stA h t)) (hl : h.length = 8) (hw : Ws h) (hb : By b) (hbl : b.length = 64) (hc : c ≤ 64) (ht : t ≤ 1152921504606846976) (hG : GBl w) (hsb : 2 ≤ sb) :
    Calls Tryd.prog 141 #[.pointer (some ⟨sb, 0, none⟩), .agg (bytesA b), .int .i64 c, .bool last] w fun e w' =>
      e = .returned (.tuple #[]) ∧ Blk w' sb 249 (stA (blockS h b (t + c) last) (t + c)) ∧ w.grownBy w' (some sb) := by
  generalize hcs : bytesA b = cs
  have hcz : cs.size = 64 := by rw [← hcs]; simp [bytesA, hbl]
  have hcg : ∀ i, i < 64 → cs[i]? = some (.int .u8 ((el b i : Nat) : Int)) := by
    intro i hi
    rw [← hcs]
    unfold bytesA
    rw [List.getElem?_toArray, List.getElem?_map, List.getElem?_eq_getElem (by omega)]
    simp [el, List.getElem?_eq_getElem (show i < b.length by omega)]
  have HG := Lib.hid hcg
  have HZ := Lib.hid hcz
  have HL := Lib.hid hl
  have HBL := Lib.hid hbl
  clear hcg hcz hcs hl hbl
  go_enter Tryd.func141, Tryd.ntmps141
  have hrow : Row ((w.alloc (.cells cs 251)).alloc (.cells #[.int .u32 0, .int .u32 0, .int .u32 0, .int .u32 0, .int .u32 0, .int .u32 0, .int .u32 0, .int .u32 0, .int .u32 0, .int .u32 0, .int .u32 0, .int .u32 0, .int .u32 0, .int .u32 0, .int .u32 0, .int .u32 0] 275)) (w.heap.size + 1) 275 (mwd b 0) := by
    unfold Row
    rw [mwd_zero]
    have := Blk.new (w.alloc (.cells cs 251)) 275 #[.int .u32 0, .int .u32 0, .int .u32 0, .int .u32 0, .int .u32 0, .int .u32 0, .int .u32 0, .int .u32 0, .int .u32 0, .int .u32 0, .int .u32 0, .int .u32 0, .int .u32 0, .int .u32 0, .int .u32 0, .int .u32 0]
    rwa [World.size_alloc] at this
  have HROW := Lib.hid hrow
  clear hrow
  go_wp2_with (refine wpList_load_row rfl 251 _ rfl w.heap.size rfl 251 cs (0, 0) _ (Blk.alloc (Blk.new w _ cs) _) Tryd.underlying251 rfl (by rw [HZ.out]; exact size251) ?_)
  go_loopw [17] (fun i wr => MRel b (w.heap.size + 1) w i wr) (fun i _ => 64 - (intOf i).toNat)
  case atStart => exact ⟨0, by omega, rfl, HROW.out, ((Below.refl _ _).alloc (Nat.le_refl _) _).alloc (by simp) _⟩
  case round =>
    obtain ⟨k, hk, rfl, hM, hB⟩ := hrel
    clear HROW
    by_cases hlt : k < 64
    · have hix := run_index_in (P := Tryd.prog) 251 5 64 cs k _ Tryd.underlying251 _ Tryd.underlying5 rfl sizeU8 hlt (HG.out k hlt)
      obtain ⟨q, r, rfl, hq16, hr4⟩ : ∃ q r, k = 4 * q + r ∧ q < 16 ∧ r < 4 := ⟨k / 4, k % 4, by omega, by omega, by omega⟩
      have old := mwd_old hb q r hq16 hr4
      have hset := mwd_set (b := b) q r hq16 hr4
      have c0 : wr.cell? ⟨w.heap.size + 1, q, none⟩ = some (.int .u32 ((el (mwd b (4 * q + r)) q : Nat) : Int)) := Row.at_ hM (i := q) (by rw [mwd_length]; exact hq16)
      have f0 : wr.frozen? ⟨w.heap.size + 1, q, none⟩ = false := Blk.free hM q
      have hby := hb.el (4 * q + r)
      generalize mpart b (4 * q + r + 1) q = new at old hset
      rw [← old.2] at hset
      have old1 := old.1
      have HSET := Lib.hid hset
      clear hset old HG
      generalize el b (4 * q + r) = x at hix hby HSET
      generalize el (mwd b (4 * q + r)) q = y at c0 old1 HSET
      have e1 : ((4 * q + r : Nat) : Int) / 4 = (q : Int) := by omega
      have e2 : ((4 * q + r : Nat) : Int) % 4 = (r : Int) := by omega
      have hr' : r = 0 ∨ r = 1 ∨ r = 2 ∨ r = 3 := by omega
      generalize 4 * q + r = k at *
      rcases hr' with rfl | rfl | rfl | rfl
      · have ho := or_byte y x _ (.inl rfl) old1 hby
        have HO := Lib.hid ho
        clear ho
        go_wp2_with fail
        go_region
        all_goals
          go_wp2_with fail
          go_roundw
          case rel => exact mstep hlt hM hB (by omega) HSET.out _ (by have h9 := HO.out; simpa using h9)
          case measure => simp [intOf]; omega
      · have ho := or_byte y x _ (.inr (.inl rfl)) old1 hby
        have HO := Lib.hid ho
        clear ho
        go_wp2_with fail
        go_region
        all_goals
          go_wp2_with fail
          go_roundw
          case rel => exact mstep hlt hM hB (by omega) HSET.out _ HO.out
          case measure => simp [intOf]; omega
      · have ho := or_byte y x _ (.inr (.inr (.inl rfl))) old1 hby
        have HO := Lib.hid ho
        clear ho
        go_wp2_with fail
        go_region
        all_goals
          go_wp2_with fail
          go_roundw
          case rel => exact mstep hlt hM hB (by omega) HSET.out _ HO.out
          case measure => simp [intOf]; omega
      · have ho := or_byte y x _ (.inr (.inr (.inr rfl))) old1 hby
        have HO := Lib.hid ho
        clear ho
        go_wp2_with fail
        go_region
        all_goals
          go_wp2_with fail
          go_roundw
          case rel => exact mstep hlt hM hB (by omega) HSET.out _ HO.out
          case measure => simp [intOf]; omega
    · obtain rfl : k = 64 := by omega
      have hS1 := Blk.below hS hB (Blk.lt hS)
      have ct : wr.cell? ⟨sb, 8, none⟩ = some (.int .u64 (t : Int)) := (Blk.cell hS1 8).trans (stA_t h t HL.out)
      have ft : wr.frozen? ⟨sb, 8, none⟩ = false := Blk.free hS1 8
      have hsl := Blk.lt hS
      have hst2 := Blk.put hS1 8 (.int .u64 ((t : Int) + (c : Int)))
      rw [← Int.natCast_add, stA_sett h t (t + c) HL.out] at hst2
      have hne : w.heap.size + 1 ≠ sb := by omega
      have hM2 := Blk.far (p := ⟨sb, 8, none⟩) hM hne (.int .u64 ((t : Int) + (c : Int)))
      have hvb : w.heap.size + 1 < wr.heap.size := Blk.lt hM
      have hgr : w.grownBy (wr.setCell ⟨sb, 8, none⟩ (.int .u64 ((t : Int) + (c : Int)))) (some sb) := grown_trans (grown_below hB _) (grown_set _ _ _ _)
      have hbs : BS w sb (w.heap.size + 1) h b (t + c) ((wr.setCell ⟨sb, 8, none⟩ (.int .u64 ((t : Int) + (c : Int)))).alloc (.cells #[.int .u32 0, .int .u32 0, .int .u32 0, .int .u32 0, .int .u32 0, .int .u32 0, .int .u32 0, .int .u32 0, .int .u32 0, .int .u32 0, .int .u32 0, .int .u32 0, .int .u32 0, .int .u32 0, .int .u32 0, .int .u32 0] 277)) :=
        ⟨Blk.alloc hst2 _, Blk.alloc hM2 _, ((hG.below hB hG.lt).far (p := ⟨sb, 8, none⟩) hsb _).below ((Below.refl 2 _).alloc (by simp [World.setCell]; omega) _) (Nat.le_refl _), grown_trans hgr (World.grownBy_alloc _ _ _)⟩
      have hrow : Row ((wr.setCell ⟨sb, 8, none⟩ (.int .u64 ((t : Int) + (c : Int)))).alloc (.cells #[.int .u32 0, .int .u32 0, .int .u32 0, .int .u32 0, .int .u32 0, .int .u32 0, .int .u32 0, .int .u32 0, .int .u32 0, .int .u32 0, .int .u32 0, .int .u32 0, .int .u32 0, .int .u32 0, .int .u32 0, .int .u32 0] 277)) wr.heap.size 277 (vpart h 0) := by
        unfold Row
        rw [vpart_zero]
        have := Blk.new (wr.setCell ⟨sb, 8, none⟩ (.int .u64 ((t : Int) + (c : Int)))) 277 #[.int .u32 0, .int .u32 0, .int .u32 0, .int .u32 0, .int .u32 0, .int .u32 0, .int .u32 0, .int .u32 0, .int .u32 0, .int .u32 0, .int .u32 0, .int .u32 0, .int .u32 0, .int .u32 0, .int .u32 0, .int .u32 0]
        simpa [World.setCell] using this
      have HBS := Lib.hid hbs
      have HROW := Lib.hid hrow
      clear hst2 hM2 hgr hbs hrow
      go_wp2_with fail
      have hvw : w.heap.size ≤ wr.heap.size := by omega
      have hvs : wr.heap.size ≠ sb := by omega
      have hvm : wr.heap.size ≠ w.heap.size + 1 := by omega
      have hv2 : 2 ≤ wr.heap.size := by have := hG.lt; omega
      clear ct ft hM hS1 hS hB
      generalize wr.heap.size = vb at *
      generalize w.heap.size + 1 = mb at *
      go_loopw [43] (fun i wr => VRel w sb mb vb h b (t + c) i wr) (fun i _ => 8 - (intOf i).toNat)
      case atStart => exact ⟨0, by omega, rfl, HBS.out, HROW.out⟩
      case round =>
        obtain ⟨k, hk, rfl, hbs, hV⟩ := hrel
        clear HBS HROW
        by_cases hlt : k < 8
        · have hlen := vpart_length h k
          have ch : wr.cell? ⟨sb, k, none⟩ = some (.int .u32 ((el h k : Nat) : Int)) := (Blk.cell hbs.st k).trans (stA_h h _ k (by rw [HL.out]; exact hlt))
          have cs0 : wr.cell? ⟨0, k, none⟩ = some (.int .u32 ((el iv k : Nat) : Int)) := by
            have h9 := hbs.g.start k _ (by rw [List.getElem?_map, List.getElem?_eq_getElem (show k < iv.length from hlt), Option.map_some])
            rw [Nat.zero_add] at h9
            rw [h9]
            simp [el, List.getElem?_eq_getElem (show k < iv.length from hlt)]
          obtain ⟨q, r, hkq, hq2, hr4⟩ : ∃ q r, k = 4 * q + r ∧ q < 2 ∧ r < 4 := ⟨k / 4, k % 4, by omega, by omega, by omega⟩
          have e1 : (k : Int) / 4 = (q : Int) := by omega
          have e2 : (k : Int) % 4 = (r : Int) := by omega
          have c1 := Row.at_ hV (i := q * 4 + r) (by omega)
          have c2 := Row.at_ hV (i := (2 + q) * 4 + r) (by omega)
          have f1 : wr.frozen? ⟨vb, q * 4 + r, none⟩ = false := Blk.free hV _
          have f2 : wr.frozen? ⟨vb, (2 + q) * 4 + r, none⟩ = false := Blk.free hV _
          have hd : q * 4 + r ≠ (2 + q) * 4 + r := by omega
          have HQ := Lib.hid hkq
          clear hkq
          go_wp2_with fail
          go_region
          all_goals
            go_wp2_with fail
            go_roundw
            case rel => exact vstep hlt hbs hV hvw hvs hvm hv2 _ _ (by have := HQ.out; omega) (by have := HQ.out; omega)
            case measure => simp [intOf]; omega
        · obtain rfl : k = 8 := by omega
          have hC : CRel w sb mb vb h b (vpart h 8) (t + c) wr := ⟨hbs, hV⟩
          have hws := vpart_ws hw 8
          have hlen := vpart_length h 8
          obtain ⟨x12, h12⟩ : ∃ x, el (vpart h 8) 12 = x := ⟨_, rfl⟩
          obtain ⟨x13, h13⟩ : ∃ x, el (vpart h 8) 13 = x := ⟨_, rfl⟩
          obtain ⟨x14, h14⟩ : ∃ x, el (vpart h 8) 14 = x := ⟨_, rfl⟩
          have l12 : x12 < 4294967296 := h12 ▸ hws.at_ 12
          have l13 : x13 < 4294967296 := h13 ▸ hws.at_ 13
          have l14 : x14 < 4294967296 := h14 ▸ hws.at_ 14
          have c12 : wr.cell? ⟨vb, 12, none⟩ = some (.int .u32 (x12 : Int)) := h12 ▸ Row.at_ hV (i := 12) (by omega)
          have c13 : wr.cell? ⟨vb, 13, none⟩ = some (.int .u32 (x13 : Int)) := h13 ▸ Row.at_ hV (i := 13) (by omega)
          have c14 : wr.cell? ⟨vb, 14, none⟩ = some (.int .u32 (x14 : Int)) := h14 ▸ Row.at_ hV (i := 14) (by omega)
          have f12 : wr.frozen? ⟨vb, 12, none⟩ = false := Blk.free hV _
          have f13 : wr.frozen? ⟨vb, 13, none⟩ = false := Blk.free hV _
          have f14 : wr.frozen? ⟨vb, 14, none⟩ = false := Blk.free hV _
          have ct : wr.cell? ⟨sb, 8, none⟩ = some (.int .u64 ((t + c : Nat) : Int)) := (Blk.cell hbs.st 8).trans (stA_t h _ HL.out)
          obtain ⟨T, hT⟩ : ∃ T, t + c = T := ⟨_, rfl⟩
          have hTl : T ≤ 1152921504606847040 := by omega
          rw [hT] at ct hC ⊢
          have E1 : bits .xor .u32 (x12 : Int) ((T : Int) % 4294967296) = ((x12 ^^^ T % 4294967296 : Nat) : Int) := by
            rw [show (T : Int) % 4294967296 = ((T % 4294967296 : Nat) : Int) from by omega]
            exact u32_xor_nat _ _ l12 (Nat.mod_lt _ (by decide))
          have E2 : bits .xor .u32 (x13 : Int) ((T : Int) / 4294967296) = ((x13 ^^^ T / 4294967296 % 4294967296 : Nat) : Int) := by
            rw [show (T : Int) / 4294967296 = ((T / 4294967296 % 4294967296 : Nat) : Int) from by omega]
            exact u32_xor_nat _ _ l13 (Nat.mod_lt _ (by decide))
          have E3 := not_eq x14 l14
          have V14 : Hid (el (vcnt h T) 14 = x14) := by
            have : el (vcnt h T) 14 = x14 := by unfold vcnt; rw [el_set_ne _ _ _ _ (by decide), el_set_ne _ _ _ _ (by decide), h14]
            exact this
          have VC : Hid (((vpart h 8).set 12 (x12 ^^^ T % 4294967296)).set 13 (x13 ^^^ T / 4294967296 % 4294967296) = vcnt h T) := by
            have : ((vpart h 8).set 12 (x12 ^^^ T % 4294967296)).set 13 (x13 ^^^ T / 4294967296 % 4294967296) = vcnt h T := by unfold vcnt; rw [h12, h13]
            exact this
          have HC := Lib.hid hC
          have HT := Lib.hid hT
          generalize x12 ^^^ T % 4294967296 = y12 at E1 VC
          generalize x13 ^^^ T / 4294967296 % 4294967296 = y13 at E2 VC
          have Y14 : Hid ((vcnt h T).set 14 (4294967295 - x14) = vlast h T true) := by
            have : (vcnt h T).set 14 (4294967295 - x14) = vlast h T true := by unfold vlast; rw [if_pos rfl, V14.out]
            exact this
          generalize 4294967295 - x14 = y14 at E3 Y14
          clear hC hbs hV hws hlen h12 h13 h14 hT
          cases last
          · go_wp2_with fail
            go_region
            all_goals
              go_wp2_with fail
              go_region
              all_goals
                have hC2 : CRel w sb mb vb h b (vlast h T false) T (((wr.setCell ⟨vb, 12, none⟩ (.int .u32 (y12 : Int))).setCell ⟨vb, 13, none⟩ (.int .u32 (y13 : Int))).drew.drew) :=
                  ((HC.out.step hvw hvs hvm hv2 12 y12 _ rfl rfl).step hvw hvs hvm hv2 13 y13 _ rfl VC.out).drew.drew
                obtain ⟨rl, hrl0⟩ : ∃ rl, (rowsL.map fun r => Value.string ⟨r.toArray⟩) = rl := ⟨_, rfl⟩
                have hr0 := hC2.1.g.rows
                rw [hrl0] at hr0
                have hrs : (Tryd.prog.info? 278).map (·.size) = some rl.length := by rw [← hrl0]; exact size278
                have HR := Lib.hid hr0
                have HRS := Lib.hid hrs
                have HC2 := Lib.hid hC2
                have HRL := Lib.hid hrl0
                clear hC2 hr0 hrs hrl0
                go_wp2_with (refine wpList_load_mid rfl 278 _ rfl 1 0 rfl _ _ HR.out Tryd.underlying278 rfl HRS.out ?_)
                have hwsL := vlast_ws hw T false
                have hlenL := vlast_length h T false
                have hfin0 : blockS h b T false = outpart h (roundsN (mwd b 64) (vlast h T false) 10) 8 := rfl
                have HFIN := Lib.hid hfin0
                clear hfin0
                generalize vlast h T false = V0 at HC2 hwsL hlenL HFIN
                have HWL := Lib.hid hwsL
                have HLL := Lib.hid hlenL
                clear hwsL hlenL c12 c13 c14 f12 f13 f14 ct E1 E2 E3 HR HRS
                go_loopw [100] (fun i wr => TRel w sb mb vb h b V0 T i wr) (fun i _ => 10 - (intOf i).toNat)
                case atStart => exact ⟨0, by omega, rfl, HC2.out⟩
                case round =>
                  obtain ⟨k, hk, rfl, hC⟩ := hrel
                  clear HC2
                  by_cases hlt : k < 10
                  · have hhex := rows_hex k hlt
                    have hrl : rl.toArray[k]? = some (.string ⟨(rowsL[k]?.getD []).toArray⟩) := by
                      rw [← HRL.out, List.getElem?_toArray, List.getElem?_map, List.getElem?_eq_getElem (show k < rowsL.length from hlt)]
                      rfl
                    have hix := run_index_in (P := Tryd.prog) 278 9 10 rl.toArray k _ Tryd.underlying278 _ Tryd.underlying9 rfl sizeStr hlt hrl
                    have hlr : (roundsN (mwd b 64) V0 k).length = 16 := by rw [rounds_length, HLL.out]
                    have hwr := rounds_ws (mwd b 64) HWL.out k
                    obtain ⟨VK, hVK⟩ : ∃ V, roundsN (mwd b 64) V0 k = V := ⟨_, rfl⟩
                    obtain ⟨V1, hV1⟩ : ∃ V, turnN (mwd b 64) (rowsL[k]?.getD []) 0 0 VK 4 = V := ⟨_, rfl⟩
                    obtain ⟨V2, hV2⟩ : ∃ V, turnN (mwd b 64) (rowsL[k]?.getD []) 8 1 V1 4 = V := ⟨_, rfl⟩
                    have hN : roundsN (mwd b 64) V0 (k + 1) = V2 := by rw [← hV2, ← hV1, ← hVK]; rfl
                    have hnx : ∀ W, CRel w sb mb vb h b V2 T W → TRel w sb mb vb h b V0 T (.int .i64 ((k : Int) + 1)) W := fun W hW => ⟨k + 1, by omega, by go_num, by rw [hN]; exact hW⟩
                    have HNX := Lib.hid hnx
                    rw [hVK] at hlr hwr hC
                    have t0 := turn0_any vb mb (mwd b 64) VK ⟨(rowsL[k]?.getD []).toArray⟩ wr hC.1.m (mwd_length b 64) hC.2 hlr hwr hhex
                    have t0' : Calls Tryd.prog 158 #[.pointer (some ⟨vb, 0, none⟩), .pointer (some ⟨mb, 0, none⟩), .string ⟨(rowsL[k]?.getD []).toArray⟩, .int .i64 0, .int .i64 0] wr fun e w' => e = .returned (.tuple #[]) ∧ Row w' vb 277 V1 ∧ wr.grownBy w' (some vb) := hV1 ▸ t0
                    have hlr2 : V1.length = 16 := by rw [← hV1, turnN_length, hlr]
                    have hwr2 : Ws V1 := hV1 ▸ hwr.turn_ (mwd b 64) (rowsL[k]?.getD []) 0 0 4
                    have t1 : ∀ (w2 : World), Row w2 mb 275 (mwd b 64) → Row w2 vb 277 V1 → Calls Tryd.prog 158 #[.pointer (some ⟨vb, 0, none⟩), .pointer (some ⟨mb, 0, none⟩), .string ⟨(rowsL[k]?.getD []).toArray⟩, .int .i64 8, .int .i64 1] w2 fun e w' => e = .returned (.tuple #[]) ∧ Row w' vb 277 V2 ∧ w2.grownBy w' (some vb) :=
                      fun w2 hM2 hV2' => hV2 ▸ turn1_any vb mb (mwd b 64) V1 ⟨(rowsL[k]?.getD []).toArray⟩ w2 hM2 (mwd_length b 64) hV2' hlr2 hwr2 hhex
                    have T0 := Lib.hid t0'
                    have T1 := Lib.hid t1
                    have HIX := Lib.hid hix
                    clear t0 t0' t1 hlr hlr2 hwr hwr2 hhex hrl hix hnx hN hVK hV1 hV2
                    generalize rowsL[k]?.getD [] = row at *
                    have hix := HIX.out
                    have HCK := Lib.hid hC
                    clear hC HIX
                    go_wp2_with fail
                    (with_reducible refine T0.out.mono ?_)
                    rintro e w2 ⟨rfl, hV2, hg2⟩
                    have hC2 := HCK.out.turned hvw hvs hvm hv2 hV2 hg2
                    have HC2 := Lib.hid hC2
                    have t1 := Lib.hid (T1.out w2 hC2.1.m hC2.2)
                    clear hC2 hV2 T1
                    go_wp2_with fail
                    (with_reducible refine t1.out.mono ?_)
                    rintro e w3 ⟨rfl, hV3, hg3⟩
                    have hC3 := Lib.hid (HC2.out.turned hvw hvs hvm hv2 hV3 hg3)
                    clear hV3 hg2 hg3 HCK hix
                    go_wp2_with fail
                    go_roundw
                    case rel => exact HNX.out _ hC3.out
                    case measure => simp [intOf]; omega
                  · obtain rfl : k = 10 := by omega
                    have hlv : (roundsN (mwd b 64) V0 10).length = 16 := by rw [rounds_length, HLL.out]
                    have hwv := rounds_ws (mwd b 64) HWL.out 10
                    generalize roundsN (mwd b 64) V0 10 = V at hC hlv hwv HFIN
                    have hS0 : Blk wr sb 249 (stA (outpart h V 0) T) := by rw [outpart_zero h V HL.out]; exact hC.1.st
                    have HS0 := Lib.hid hS0
                    clear hS0
                    go_wp2_with fail
                    go_loopw [108] (fun i wr => HRel w sb vb h V T i wr) (fun i _ => 8 - (intOf i).toNat)
                    case atStart => exact ⟨0, by omega, rfl, HS0.out, hC.2, hC.1.gr⟩
                    case round =>
                      obtain ⟨k, hk, rfl, hS4, hV4, hg4⟩ := hrel
                      clear hC HS0
                      by_cases hlt : k < 8
                      · obtain ⟨q, r, hkq, hq2, hr4⟩ : ∃ q r, k = 4 * q + r ∧ q < 2 ∧ r < 4 := ⟨k / 4, k % 4, by omega, by omega, by omega⟩
                        have e1 : (k : Int) / 4 = (q : Int) := by omega
                        have e2 : (k : Int) % 4 = (r : Int) := by omega
                        obtain ⟨x, hx⟩ : ∃ x, el h k = x := ⟨_, rfl⟩
                        obtain ⟨y, hy⟩ : ∃ y, el V k = y := ⟨_, rfl⟩
                        obtain ⟨z, hz⟩ : ∃ z, el V (8 + k) = z := ⟨_, rfl⟩
                        have lx : x < 4294967296 := hx ▸ hw.at_ k
                        have ly : y < 4294967296 := hy ▸ hwv.at_ k
                        have lz : z < 4294967296 := hz ▸ hwv.at_ (8 + k)
                        have ch : wr.cell? ⟨sb, k, none⟩ = some (.int .u32 (x : Int)) := by
                          rw [← hx, ← outpart_at h V k hlt]
                          exact (Blk.cell hS4 k).trans (stA_h _ _ k (by rw [outpart_length]; exact hlt))
                        have c1 : wr.cell? ⟨vb, q * 4 + r, none⟩ = some (.int .u32 (y : Int)) := by
                          rw [← hy, show k = q * 4 + r from by omega]
                          exact Row.at_ hV4 (by omega)
                        have c2 : wr.cell? ⟨vb, (2 + q) * 4 + r, none⟩ = some (.int .u32 (z : Int)) := by
                          rw [← hz, show 8 + k = (2 + q) * 4 + r from by omega]
                          exact Row.at_ hV4 (by omega)
                        have fh : wr.frozen? ⟨sb, k, none⟩ = false := Blk.free hS4 k
                        have E1 : bits .xor .u32 (y : Int) (z : Int) = ((y ^^^ z : Nat) : Int) := u32_xor_nat _ _ ly lz
                        have E2 : bits .xor .u32 (x : Int) ((y ^^^ z : Nat) : Int) = ((x ^^^ (y ^^^ z) : Nat) : Int) := u32_xor_nat _ _ lx (xor_lt ly lz)
                        have HQ := Lib.hid hkq
                        have HX : Hid (((x ^^^ (y ^^^ z) : Nat) : Int) = ((el h k ^^^ (el V k ^^^ el V (8 + k)) : Nat) : Int)) := by
                          have : ((x ^^^ (y ^^^ z) : Nat) : Int) = ((el h k ^^^ (el V k ^^^ el V (8 + k)) : Nat) : Int) := by rw [hx, hy, hz]
                          exact this
                        generalize x ^^^ (y ^^^ z) = u2 at E2 HX
                        generalize y ^^^ z = u1 at E1 E2
                        clear hkq hx hy hz hlv hwv
                        go_wp2_with fail
                        go_region
                        all_goals
                          go_wp2_with fail
                          go_roundw
                          case rel => exact hstep hlt hS4 hV4 hg4 hvs _ HX.out
                          case measure => simp [intOf]; omega
                      · obtain rfl : k = 8 := by omega
                        go_wp2_with fail
                        go_end0
                        refine ⟨rfl, ?_, hg4⟩
                        rw [HT.out, HFIN.out]
                        exact hS4
          · obtain ⟨h0, rfl⟩ : ∃ h0, h0 = h := ⟨_, rfl⟩
            have hs1 : IntKind.u32.signed = false := rfl
            have hs2 : IntKind.u32.max = 4294967295 := rfl
            go_wp2_with fail
            go_region
            all_goals
              go_wp2_with fail
              go_region
              all_goals
                have hC2 : CRel w sb mb vb h0 b (vlast h0 T true) T ((((wr.setCell ⟨vb, 12, none⟩ (.int .u32 (y12 : Int))).setCell ⟨vb, 13, none⟩ (.int .u32 (y13 : Int))).setCell ⟨vb, 14, none⟩ (.int .u32 (y14 : Int))).drew.drew) :=
                  (((HC.out.step hvw hvs hvm hv2 12 y12 _ rfl rfl).step hvw hvs hvm hv2 13 y13 _ rfl VC.out).step hvw hvs hvm hv2 14 y14 _ rfl Y14.out).drew.drew
                obtain ⟨rl, hrl0⟩ : ∃ rl, (rowsL.map fun r => Value.string ⟨r.toArray⟩) = rl := ⟨_, rfl⟩
                have hr0 := hC2.1.g.rows
                rw [hrl0] at hr0
                have hrs : (Tryd.prog.info? 278).map (·.size) = some rl.length := by rw [← hrl0]; exact size278
                have HR := Lib.hid hr0
                have HRS := Lib.hid hrs
                have HC2 := Lib.hid hC2
                have HRL := Lib.hid hrl0
                clear hC2 hr0 hrs hrl0
                go_wp2_with (refine wpList_load_mid rfl 278 _ rfl 1 0 rfl _ _ HR.out Tryd.underlying278 rfl HRS.out ?_)
                have hwsL := vlast_ws hw T true
                have hlenL := vlast_length h0 T true
                have hfin0 : blockS h0 b T true = outpart h0 (roundsN (mwd b 64) (vlast h0 T true) 10) 8 := rfl
                have HFIN := Lib.hid hfin0
                clear hfin0
                generalize vlast h0 T true = V0 at HC2 hwsL hlenL HFIN
                have HWL := Lib.hid hwsL
                have HLL := Lib.hid hlenL
                clear hwsL hlenL c12 c13 c14 f12 f13 f14 ct E1 E2 E3 HR HRS
                go_loopw [100] (fun i wr => TRel w sb mb vb h0 b V0 T i wr) (fun i _ => 10 - (intOf i).toNat)
                case atStart => exact ⟨0, by omega, rfl, HC2.out⟩
                case round =>
                  obtain ⟨k, hk, rfl, hC⟩ := hrel
                  clear HC2
                  by_cases hlt : k < 10
                  · have hhex := rows_hex k hlt
                    have hrl : rl.toArray[k]? = some (.string ⟨(rowsL[k]?.getD []).toArray⟩) := by
                      rw [← HRL.out, List.getElem?_toArray, List.getElem?_map, List.getElem?_eq_getElem (show k < rowsL.length from hlt)]
                      rfl
                    have hix := run_index_in (P := Tryd.prog) 278 9 10 rl.toArray k _ Tryd.underlying278 _ Tryd.underlying9 rfl sizeStr hlt hrl
                    have hlr : (roundsN (mwd b 64) V0 k).length = 16 := by rw [rounds_length, HLL.out]
                    have hwr := rounds_ws (mwd b 64) HWL.out k
                    obtain ⟨VK, hVK⟩ : ∃ V, roundsN (mwd b 64) V0 k = V := ⟨_, rfl⟩
                    obtain ⟨V1, hV1⟩ : ∃ V, turnN (mwd b 64) (rowsL[k]?.getD []) 0 0 VK 4 = V := ⟨_, rfl⟩
                    obtain ⟨V2, hV2⟩ : ∃ V, turnN (mwd b 64) (rowsL[k]?.getD []) 8 1 V1 4 = V := ⟨_, rfl⟩
                    have hN : roundsN (mwd b 64) V0 (k + 1) = V2 := by rw [← hV2, ← hV1, ← hVK]; rfl
                    have hnx : ∀ W, CRel w sb mb vb h0 b V2 T W → TRel w sb mb vb h0 b V0 T (.int .i64 ((k : Int) + 1)) W := fun W hW => ⟨k + 1, by omega, by go_num, by rw [hN]; exact hW⟩
                    have HNX := Lib.hid hnx
                    rw [hVK] at hlr hwr hC
                    have t0 := turn0_any vb mb (mwd b 64) VK ⟨(rowsL[k]?.getD []).toArray⟩ wr hC.1.m (mwd_length b 64) hC.2 hlr hwr hhex
                    have t0' : Calls Tryd.prog 158 #[.pointer (some ⟨vb, 0, none⟩), .pointer (some ⟨mb, 0, none⟩), .string ⟨(rowsL[k]?.getD []).toArray⟩, .int .i64 0, .int .i64 0] wr fun e w' => e = .returned (.tuple #[]) ∧ Row w' vb 277 V1 ∧ wr.grownBy w' (some vb) := hV1 ▸ t0
                    have hlr2 : V1.length = 16 := by rw [← hV1, turnN_length, hlr]
                    have hwr2 : Ws V1 := hV1 ▸ hwr.turn_ (mwd b 64) (rowsL[k]?.getD []) 0 0 4
                    have t1 : ∀ (w2 : World), Row w2 mb 275 (mwd b 64) → Row w2 vb 277 V1 → Calls Tryd.prog 158 #[.pointer (some ⟨vb, 0, none⟩), .pointer (some ⟨mb, 0, none⟩), .string ⟨(rowsL[k]?.getD []).toArray⟩, .int .i64 8, .int .i64 1] w2 fun e w' => e = .returned (.tuple #[]) ∧ Row w' vb 277 V2 ∧ w2.grownBy w' (some vb) :=
                      fun w2 hM2 hV2' => hV2 ▸ turn1_any vb mb (mwd b 64) V1 ⟨(rowsL[k]?.getD []).toArray⟩ w2 hM2 (mwd_length b 64) hV2' hlr2 hwr2 hhex
                    have T0 := Lib.hid t0'
                    have T1 := Lib.hid t1
                    have HIX := Lib.hid hix
                    clear t0 t0' t1 hlr hlr2 hwr hwr2 hhex hrl hix hnx hN hVK hV1 hV2
                    generalize rowsL[k]?.getD [] = row at *
                    have hix := HIX.out
                    have HCK := Lib.hid hC
                    clear hC HIX
                    go_wp2_with fail
                    (with_reducible refine T0.out.mono ?_)
                    rintro e w2 ⟨rfl, hV2, hg2⟩
                    have hC2 := HCK.out.turned hvw hvs hvm hv2 hV2 hg2
                    have HC2 := Lib.hid hC2
                    have t1 := Lib.hid (T1.out w2 hC2.1.m hC2.2)
                    clear hC2 hV2 T1
                    go_wp2_with fail
                    (with_reducible refine t1.out.mono ?_)
                    rintro e w3 ⟨rfl, hV3, hg3⟩
                    have hC3 := Lib.hid (HC2.out.turned hvw hvs hvm hv2 hV3 hg3)
                    clear hV3 hg2 hg3 HCK hix
                    go_wp2_with fail
                    go_roundw
                    case rel => exact HNX.out _ hC3.out
                    case measure => simp [intOf]; omega
                  · obtain rfl : k = 10 := by omega
                    have hlv : (roundsN (mwd b 64) V0 10).length = 16 := by rw [rounds_length, HLL.out]
                    have hwv := rounds_ws (mwd b 64) HWL.out 10
                    generalize roundsN (mwd b 64) V0 10 = V at hC hlv hwv HFIN
                    have hS0 : Blk wr sb 249 (stA (outpart h0 V 0) T) := by rw [outpart_zero h0 V HL.out]; exact hC.1.st
                    have HS0 := Lib.hid hS0
                    clear hS0
                    go_wp2_with fail
                    go_loopw [108] (fun i wr => HRel w sb vb h0 V T i wr) (fun i _ => 8 - (intOf i).toNat)
                    case atStart => exact ⟨0, by omega, rfl, HS0.out, hC.2, hC.1.gr⟩
                    case round =>
                      obtain ⟨k, hk, rfl, hS4, hV4, hg4⟩ := hrel
                      clear hC HS0
                      by_cases hlt : k < 8
                      · obtain ⟨q, r, hkq, hq2, hr4⟩ : ∃ q r, k = 4 * q + r ∧ q < 2 ∧ r < 4 := ⟨k / 4, k % 4, by omega, by omega, by omega⟩
                        have e1 : (k : Int) / 4 = (q : Int) := by omega
                        have e2 : (k : Int) % 4 = (r : Int) := by omega
                        obtain ⟨x, hx⟩ : ∃ x, el h0 k = x := ⟨_, rfl⟩
                        obtain ⟨y, hy⟩ : ∃ y, el V k = y := ⟨_, rfl⟩
                        obtain ⟨z, hz⟩ : ∃ z, el V (8 + k) = z := ⟨_, rfl⟩
                        have lx : x < 4294967296 := hx ▸ hw.at_ k
                        have ly : y < 4294967296 := hy ▸ hwv.at_ k
                        have lz : z < 4294967296 := hz ▸ hwv.at_ (8 + k)
                        have ch : wr.cell? ⟨sb, k, none⟩ = some (.int .u32 (x : Int)) := by
                          rw [← hx, ← outpart_at h0 V k hlt]
                          exact (Blk.cell hS4 k).trans (stA_h _ _ k (by rw [outpart_length]; exact hlt))
                        have c1 : wr.cell? ⟨vb, q * 4 + r, none⟩ = some (.int .u32 (y : Int)) := by
                          rw [← hy, show k = q * 4 + r from by omega]
                          exact Row.at_ hV4 (by omega)
                        have c2 : wr.cell? ⟨vb, (2 + q) * 4 + r, none⟩ = some (.int .u32 (z : Int)) := by
                          rw [← hz, show 8 + k = (2 + q) * 4 + r from by omega]
                          exact Row.at_ hV4 (by omega)
                        have fh : wr.frozen? ⟨sb, k, none⟩ = false := Blk.free hS4 k
                        have E1 : bits .xor .u32 (y : Int) (z : Int) = ((y ^^^ z : Nat) : Int) := u32_xor_nat _ _ ly lz
                        have E2 : bits .xor .u32 (x : Int) ((y ^^^ z : Nat) : Int) = ((x ^^^ (y ^^^ z) : Nat) : Int) := u32_xor_nat _ _ lx (xor_lt ly lz)
                        have HQ := Lib.hid hkq
                        have HX : Hid (((x ^^^ (y ^^^ z) : Nat) : Int) = ((el h0 k ^^^ (el V k ^^^ el V (8 + k)) : Nat) : Int)) := by
                          have : ((x ^^^ (y ^^^ z) : Nat) : Int) = ((el h0 k ^^^ (el V k ^^^ el V (8 + k)) : Nat) : Int) := by rw [hx, hy, hz]
                          exact this
                        generalize x ^^^ (y ^^^ z) = u2 at E2 HX
                        generalize y ^^^ z = u1 at E1 E2
                        clear hkq hx hy hz hlv hwv
                        go_wp2_with fail
                        go_region
                        all_goals
                          go_wp2_with fail
                          go_roundw
                          case rel => exact hstep hlt hS4 hV4 hg4 hvs _ HX.out
                          case measure => simp [intOf]; omega
                      · obtain rfl : k = 8 := by omega
                        go_wp2_with fail
                        go_end0
                        refine ⟨rfl, ?_, hg4⟩
                        rw [HT.out, HFIN.out]
                        exact hS4
end Go.Proofs.YtljpjckklkpipaaDoor.Bt
