/- The walk of blake.Sum. -/
import Derived.Test.YtljpjckklkpipaaDoorBb
import Derived.Test.YtljpjckklkpipaaDoorBn
import Derived.Lib.Strings
namespace Go.Proofs.YtljpjckklkpipaaDoor.Bt
open Go.RowKit Wd Bl Ba Bk
set_option maxRecDepth 100000
attribute [local go_sem ↓] Go.wp_at_zero Go.wp_at_succ

theorem txt_extract (s : ByteArray) (n : Nat) : txt (s.extract n s.size) = (txt s).drop n := by
  unfold txt
  rw [← List.map_drop]
  congr 1
  have hs : s.data.toList.length = s.size := by rw [Array.length_toList]; rfl
  have h : (s.extract n s.size).data.toList = (s.data.toList.drop n).take (s.size - n) := by simp
  rw [h, List.take_of_length_le (by rw [List.length_drop]; omega)]
theorem txt_empty (s : ByteArray) : s.toList.isEmpty = (txt s).isEmpty := by
  rw [Lib.toList_data]
  unfold txt
  cases s.data.toList <;> rfl
theorem copy_cells (s : ByteArray) (n : Nat) (hn : n = min s.size 64) (cur : Array Value) (hc : cur = bytesA (List.replicate 64 0)) :
    ((s.data.toList.map fun b : UInt8 => Value.int .u8 b.toNat).take n ++ cur.toList.drop n).toArray = bytesA (padB ((txt s).take 64)) := by
  subst hc
  have hs : s.data.toList.length = s.size := by rw [Array.length_toList]; rfl
  have h1 : (s.data.toList.map fun b : UInt8 => Value.int .u8 b.toNat).take n = ((txt s).take 64).map fun (x : Nat) => Value.int .u8 (x : Int) := by
    rw [← List.map_take]
    unfold txt
    rw [← List.map_take, List.map_map]
    have e : s.data.toList.take n = s.data.toList.take 64 := by
      by_cases h : s.size ≤ 64
      · rw [List.take_of_length_le (by omega), List.take_of_length_le (by omega)]
      · rw [hn, Nat.min_eq_right (by omega)]
    rw [e]
    rfl
  rw [h1]
  unfold bytesA padB
  rw [List.map_append, List.map_replicate]
  congr 2
  have h2 : ((txt s).take 64).length = n := by rw [List.length_take, txt_length, hn, Nat.min_comm]
  rw [h2]
  show List.drop n (List.replicate 64 (Value.int .u8 ((0 : Nat) : Int))) = _
  rw [List.drop_replicate, List.map_replicate]
theorem wpList_copy64 {P : Program} {w : World} {ops : Array Oper} {rest : List Oper} {o : Oper} {a : Act} {Q : Exit → Act → World → Prop} (hgd : o.guard = none) (d x : Operand) (dT sT : TypeId)
    (ho : o.op = .call { callee := .builtin .copy, args := #[d, x], argTypes := #[dT, sT] }) (elem : TypeId) (hu : P.underlying dT = some (.slice elem)) (hsz : (P.info? elem).map (·.size) = some 1)
    (g dCap : Nat) (hd : a.eval d = .slice (some ⟨g, 0, none⟩) 64 dCap) (s : ByteArray) (hs : a.eval x = .string s) (n : Nat) (hn : n = min s.size 64) (cur : Array Value) (t : TypeId) (hg : w.heap[g]? = some (.cells cur t (0, 0))) (hc : cur = bytesA (List.replicate 64 0))
    (h : ∀ w', Blk w' g t (bytesA (padB ((txt s).take 64))) → w.grownBy w' (some g) → wpList P ops Q rest (a.put o.dst (.int .i64 (n : Int))) w') : wpList P ops Q (o :: rest) a w := by
  refine wpList_plain hgd fun K hK => ?_
  have hcs : cur.size = 64 := by rw [hc]; simp [bytesA]
  have hle : n ≤ 64 := by omega
  have hs0 : s.data.toList.length = s.size := by rw [Array.length_toList]; rfl
  have hns : ((s.data.toList.map fun b : UInt8 => Value.int .u8 b.toNat).take n).length = n := by
    rw [List.length_take, List.length_map]
    omega
  have hst := run_storeCells_at P g 0 t ((s.data.toList.map fun b : UInt8 => Value.int .u8 b.toNat).take n) 0 cur w hg (by rw [hns, hcs]; omega) (fun v hv => by
    have hv := List.mem_of_mem_take hv
    rw [List.mem_map] at hv
    obtain ⟨b, _, rfl⟩ := hv
    rfl)
  obtain ⟨i, hi, hi1⟩ := Option.map_eq_some_iff.1 hsz
  have hrun : (Builtin.copy_ #[dT, sT] o.type #[.slice (some ⟨g, 0, none⟩) 64 dCap, .string s]).run P w = .ok (goInt n) (w.setRow g (bytesA (padB ((txt s).take 64)))) := by
    rw [← copy_cells s n hn cur hc]
    have hmin : Nat.min s.size 64 = n := hn.symm
    rw [hns] at hst
    simp only [Nat.add_zero, Nat.zero_add, List.take_zero, List.nil_append] at hst
    simp [Builtin.copy_, run_underlying hu, Builtin.lenOf, Builtin.firstCells, sizeOf, typeInfo, hi, hmin]
    rw [hst]
    simp [Result.andThen]
  unfold Oper.wp
  simp [execOp, ho, resolve, invoke, builtin, hd, hs, hrun, Result.andThen]
  exact hK _ _ (h _ (setRow_heap w g _ _ t _ hg) ⟨rfl, rfl, rfl, by simp [World.setRow], fun k _ hk => setRow_other w g k _ (fun e => hk (by rw [e]))⟩)

theorem sum_long (key text : ByteArray) (w : World) (hk : 32 < key.size) :
    Calls Tryd.prog 108 #[.string key, .string text] w fun e w' => e = .returned (.tuple #[.string ⟨#[]⟩, .int .i64 2]) ∧ Below w.heap.size w w' := by
  go_enter Tryd.func108, Tryd.ntmps108
  go_wp2
  go_ret2
  exact ⟨rfl, Below.refl _ _⟩
/-- the state of a sum under way -/
structure SSt (w : World) (sb : Nat) (h : List Nat) (t : Nat) (wr : World) : Prop where
  st : Blk wr sb 249 (stA h t)
  hl : h.length = 8
  hw : Ws h
  g : GBl wr
  bel : Below w.heap.size w wr
theorem SSt.block {w wr : World} {sb : Nat} {h : List Nat} {t : Nat} (H : SSt w sb h t wr) (hsb : w.heap.size ≤ sb) (h2 : 2 ≤ sb) (b : List Nat) (hb : By b) (hbl : b.length = 64) (c : Nat) (hc : c ≤ 64) (ht : t ≤ 1152921504606846976) (last : Bool) :
    Calls Tryd.prog 141 #[.pointer (some ⟨sb, 0, none⟩), .agg (bytesA b), .int .i64 c, .bool last] wr fun e w' =>
      e = .returned (.tuple #[]) ∧ SSt w sb (blockS h b (t + c) last) (t + c) w' :=
  (block_any sb h b t c last wr H.st H.hl H.hw hb hbl hc ht H.g h2).mono fun e w' ⟨he, h3, h4⟩ =>
    ⟨he, h3, blockS_length _ _ _ _, blockS_ws H.hw _ _ _, H.g.grown h4 (fun k e => by injection e with e; omega), H.bel.trans (grown_new h4 hsb H.bel.size)⟩
theorem SSt.mine {w wr w' : World} {sb : Nat} {h : List Nat} {t : Nat} (H : SSt w sb h t wr) (hb : Below wr.heap.size wr w') : SSt w sb h t w' :=
  ⟨Blk.below H.st hb (Blk.lt H.st), H.hl, H.hw, H.g.below hb H.g.lt, H.bel.trans (hb.mono H.bel.size)⟩
theorem SSt.grown {w wr w' : World} {sb g : Nat} {h : List Nat} {t : Nat} (H : SSt w sb h t wr) (hb : wr.grownBy w' (some g)) (hg : w.heap.size ≤ g) (hs : g ≠ sb) (h2 : 2 ≤ g) : SSt w sb h t w' :=
  ⟨Blk.grown H.st hb (by simp; exact Ne.symm hs), H.hl, H.hw, H.g.grown hb (fun k e => by injection e with e; omega), H.bel.trans (grown_new hb hg H.bel.size)⟩
theorem second_new (w : World) (o : Obj) (c : Array Value) (t : TypeId) : ((w.alloc o).alloc (.cells c t)).drew.heap[w.heap.size + 1]? = some (.cells c t (0, 0)) := by
  have h9 := heap_alloc_last (w.alloc o) (.cells c t)
  rw [World.size_alloc] at h9
  exact h9
theorem first_new (w : World) (c : Array Value) (t : TypeId) (o : Obj) : Blk ((w.alloc (.cells c t)).alloc o).drew w.heap.size t c := Blk.drew (Blk.alloc (Blk.new w t c) o)
/-- what the loop over the text keeps -/
def LRel (w : World) (sb : Nat) (fin : List Nat) (f x : Value) (wr : World) : Prop :=
  ∃ (first : Bool) (s : ByteArray) (h : List Nat) (t : Nat), f = .bool first ∧ x = .string s ∧ SSt w sb h t wr ∧ t + s.size ≤ 140737488355392 ∧
    (if first = true then sumR (blkT h t (txt s)) (t + ((txt s).take 64).length) ((txt s).drop 64) else sumR h t (txt s)) = fin
def lmeas (f x : Value) : Nat := (match f with | .bool true => 1 | _ => 0) + (match x with | .string s => 2 * s.size | _ => 0)
theorem lmeas_eq (b : Bool) (s : ByteArray) : lmeas (.bool b) (.string s) = (if b = true then 1 else 0) + 2 * s.size := by cases b <;> rfl
/-- the sum's bytes, as far as i -/
def opart (h : List Nat) (i : Nat) : List Nat := (List.range 32).map fun j => if j < i then el h (j / 4) / 2 ^ (8 * (j % 4)) % 256 else 0
def QRel (w : World) (sb ob : Nat) (h : List Nat) (i : Value) (wr : World) : Prop :=
  ∃ (k t : Nat), k ≤ 32 ∧ i = .int .i64 k ∧ SSt w sb h t wr ∧ Blk wr ob 253 (bytesA (opart h k))
theorem opart_length (h : List Nat) (i : Nat) : (opart h i).length = 32 := by simp [opart]
theorem bytesA_set (v : List Nat) (i x : Nat) : (bytesA v).setIfInBounds i (.int .u8 (x : Int)) = bytesA (v.set i x) := by
  unfold bytesA
  rw [List.map_set, List.setIfInBounds_toArray]
theorem bytesA_get (v : List Nat) (i : Nat) (h : i < v.length) : (bytesA v)[i]? = some (.int .u8 ((el v i : Nat) : Int)) := by
  unfold bytesA
  rw [List.getElem?_toArray, List.getElem?_map, List.getElem?_eq_getElem h]
  simp [el, List.getElem?_eq_getElem h]
theorem opart_set (h : List Nat) (i : Nat) (hi : i < 32) : (opart h i).set i (el h (i / 4) / 2 ^ (8 * (i % 4)) % 256) = opart h (i + 1) := by
  apply List.ext_getElem?
  intro j
  rw [List.getElem?_set]
  by_cases h1 : i = j
  · subst h1
    rw [if_pos rfl, if_pos (by rw [opart_length]; exact hi)]
    simp [opart, hi]
  · rw [if_neg h1]
    by_cases h2 : j < 32
    · simp only [opart, List.getElem?_map, List.getElem?_range h2, Option.map_some]
      congr 1
      by_cases h3 : j < i
      · rw [if_pos h3, if_pos (by omega)]
      · rw [if_neg h3, if_neg (by omega)]
    · rw [List.getElem?_eq_none (by rw [opart_length]; omega), List.getElem?_eq_none (by rw [opart_length]; omega)]
theorem opart_all (h : List Nat) : opart h 32 = outB h := by
  unfold opart outB
  apply List.map_congr_left
  intro j hj
  rw [if_pos (by simpa using hj)]
theorem opart_none (h : List Nat) : opart h 0 = List.replicate 32 0 := by
  have e : opart h 0 = (List.range 32).map fun _ => 0 := by
    unfold opart
    apply List.map_congr_left
    intro j _
    rw [if_neg (by omega)]
  rw [e]
  rfl
theorem qstep {w wr : World} {sb ob k t : Nat} {h : List Nat} (hk : k < 32) (H : SSt w sb h t wr) (hO : Blk wr ob 253 (bytesA (opart h k))) (ho : w.heap.size ≤ ob) (hs : ob ≠ sb) (h2 : 2 ≤ ob) (z : Int) (hz : z = ((el h (k / 4) / 2 ^ (8 * (k % 4)) % 256 : Nat) : Int)) :
    QRel w sb ob h (.int .i64 ((k : Int) + 1)) (wr.setCell ⟨ob, k, none⟩ (.int .u8 z)) := by
  subst hz
  have h1 := Blk.put hO k (.int .u8 ((el h (k / 4) / 2 ^ (8 * (k % 4)) % 256 : Nat) : Int))
  rw [bytesA_set, opart_set h k hk] at h1
  exact ⟨k + 1, t, hk, by go_num, H.grown (grown_set wr ob k _) ho hs h2, h1⟩
set_option maxHeartbeats 4000000 in
theorem sum_short (key text : ByteArray) (w : World) (hk : key.size ≤ 32) (hG : GBl w) (ht : text.size ≤ 140737488355328) :
    Calls Tryd.prog 108 #[.string key, .string text] w fun e w' => e = .returned (.tuple #[.string (sumB key text), .int .i64 0]) ∧ Below w.heap.size w w' := by
  have c0 : w.cell? ⟨0, 0, none⟩ = some (.int .u32 1779033703) := hG.start 0 _ rfl
  have c1 : w.cell? ⟨0, 1, none⟩ = some (.int .u32 3144134277) := hG.start 1 _ rfl
  have c2 : w.cell? ⟨0, 2, none⟩ = some (.int .u32 1013904242) := hG.start 2 _ rfl
  have c3 : w.cell? ⟨0, 3, none⟩ = some (.int .u32 2773480762) := hG.start 3 _ rfl
  have c4 : w.cell? ⟨0, 4, none⟩ = some (.int .u32 1359893119) := hG.start 4 _ rfl
  have c5 : w.cell? ⟨0, 5, none⟩ = some (.int .u32 2600822924) := hG.start 5 _ rfl
  have c6 : w.cell? ⟨0, 6, none⟩ = some (.int .u32 528734635) := hG.start 6 _ rfl
  have c7 : w.cell? ⟨0, 7, none⟩ = some (.int .u32 1541459225) := hG.start 7 _ rfl
  obtain ⟨kl, hkl⟩ : ∃ kl, key.size = kl := ⟨_, rfl⟩
  have hx1 : 16842784 ^^^ kl * 256 < 4294967296 := xor_lt (by decide) (by omega)
  have E1 : bits .xor .u32 (16842784 : Int) ((kl : Int) * 256) = ((16842784 ^^^ kl * 256 : Nat) : Int) := by
    rw [show ((kl : Int) * 256) = ((kl * 256 : Nat) : Int) from by omega]
    exact u32_xor_nat 16842784 _ (by decide) (by omega)
  have E2 : bits .xor .u32 (1779033703 : Int) ((16842784 ^^^ kl * 256 : Nat) : Int) = ((1779033703 ^^^ (16842784 ^^^ kl * 256) : Nat) : Int) := u32_xor_nat 1779033703 _ (by decide) hx1
  have hh0 : h0 kl = [1779033703 ^^^ (16842784 ^^^ kl * 256), 3144134277, 1013904242, 2773480762, 1359893119, 2600822924, 528734635, 1541459225] := rfl
  have HH0 := Lib.hid hh0
  generalize 1779033703 ^^^ (16842784 ^^^ kl * 256) = q0 at E2 HH0
  generalize 16842784 ^^^ kl * 256 = q1 at E1 E2
  clear hx1 hh0
  have hkl' : key.size ≤ 32 := hk
  by_cases hke : key.toList.isEmpty = true
  · have hfin : (if true = true then sumR (blkT (h0 kl) 0 (txt text)) (0 + ((txt text).take 64).length) ((txt text).drop 64) else sumR (h0 kl) 0 (txt text)) = sumH (txt key) (txt text) := by
      have hk0 : kl = 0 := by
        have h9 := txt_length key
        rw [txt_empty] at hke
        rw [List.isEmpty_iff.1 hke] at h9
        simp at h9
        omega
      unfold sumH
      rw [txt_empty] at hke
      rw [if_pos rfl, hke, if_pos rfl, hk0, Nat.zero_add]
    have HFIN := Lib.hid hfin
    clear hfin
    have hst1 : SSt w w.heap.size (h0 kl) 0 (w.alloc (.cells #[.int .u32 (q0 : Int), .int .u32 3144134277, .int .u32 1013904242, .int .u32 2773480762, .int .u32 1359893119, .int .u32 2600822924, .int .u32 528734635, .int .u32 1541459225, .int .u64 0] 249)).drew := by
      refine ⟨?_, h0_length kl, h0_ws (by omega), hG.below ((Below.refl _ w).alloc (Nat.le_refl _) _).drew hG.lt, ((Below.refl _ w).alloc (Nat.le_refl _) _).drew⟩
      unfold stA
      rw [HH0.out]
      exact Blk.drew (Blk.new w _ _)
    have HST1 := Lib.hid hst1
    have HS0 := HST1
    clear hst1
    go_enter Tryd.func108, Tryd.ntmps108
    go_wp2_with fail
    go_region
    all_goals
      go_wp2_with fail
      have hsw : w.heap.size ≤ w.heap.size := Nat.le_refl _
      have hs2 : 2 ≤ w.heap.size := hG.lt
      clear c0 c1 c2 c3 c4 c5 c6 c7 E1 E2 HS0 HH0
      go_loopw [1, 8] (fun x f wr => LRel w w.heap.size (sumH (txt key) (txt text)) f x wr) (fun x f _ => lmeas f x)
      case atStart => exact ⟨true, text, h0 kl, 0, rfl, rfl, HST1.out, by omega, HFIN.out⟩
      case round =>
        obtain ⟨first, s, h, t, rfl, rfl, hst, htl, hfin⟩ := hrel
        clear HFIN HST1
        by_cases hgo : first = true ∨ s.toList.isEmpty = false
        · obtain ⟨n, hn⟩ : ∃ n, n = min s.size 64 := ⟨_, rfl⟩
          have hl0 : (txt s).length = s.size := txt_length s
          have hdrop : txt (s.extract n s.size) = (txt s).drop 64 := by
            rw [txt_extract]
            by_cases h9 : s.size ≤ 64
            · rw [List.drop_eq_nil_of_le (by omega), List.drop_eq_nil_of_le (by omega)]
            · rw [show n = 64 from by omega]
          have htk : ((txt s).take 64).length = n := by rw [List.length_take]; omega
          have hns : n ≤ s.size := by omega
          have hn64 : n ≤ 64 := by omega
          have hemp : (s.extract n s.size).toList.isEmpty = ((txt s).drop 64).isEmpty := by rw [txt_empty, hdrop]
          have hsx : (s.extract n s.size).size = s.size - n := by rw [ByteArray.size_extract]; omega
          have hnx : sumR (blkT h t (txt s)) (t + n) ((txt s).drop 64) = sumH (txt key) (txt text) := by
            rw [← hfin]
            split
            · rw [htk]
            · rename_i hf
              rw [sumR_step h t (l := txt s) (by
                intro e
                rcases hgo with h9 | h9
                · exact hf h9
                · rw [txt_empty, e] at h9; cases h9), htk]
          have hbl : blkT h t (txt s) = blockS h (padB ((txt s).take 64)) (t + n) ((txt s).drop 64).isEmpty := by unfold blkT; rw [htk]
          obtain ⟨csT, hcs⟩ : ∃ cs, bytesA (padB ((txt s).take 64)) = cs := ⟨_, rfl⟩
          have hpl : (padB ((txt s).take 64)).length = 64 := padB_length (by rw [htk]; exact hn64)
          have hsz : csT.size = 64 := by rw [← hcs]; simp [bytesA, hpl]
          have hcall : ∀ W, SSt w w.heap.size h t W → Calls Tryd.prog 141 #[.pointer (some ⟨w.heap.size, 0, none⟩), .agg csT, .int .i64 n, .bool (s.extract n s.size).toList.isEmpty] W fun e w' => e = .returned (.tuple #[]) ∧ SSt w w.heap.size (blkT h t (txt s)) (t + n) w' := fun W hW => by
            rw [hemp, ← hcs, hbl]
            exact hW.block (Nat.le_refl _) hG.lt _ (padB_by ((txt_by s).take 64)) hpl n hn64 (by omega) _
          have hnew : ∀ W, SSt w w.heap.size (blkT h t (txt s)) (t + n) W → LRel w w.heap.size (sumH (txt key) (txt text)) (.bool false) (.string (s.extract n s.size)) W := fun W hW =>
            ⟨false, _, _, _, rfl, rfl, hW, by rw [hsx]; omega, by rw [if_neg (by decide), hdrop]; exact hnx⟩
          have hmea : lmeas (.bool false) (.string (s.extract n s.size)) < lmeas (.bool first) (.string s) := by
            rw [lmeas_eq, lmeas_eq, hsx]
            rcases hgo with h9 | h9
            · subst h9; simp; omega
            · have h8 : 0 < s.size := by
                rw [txt_empty] at h9
                rcases Nat.eq_zero_or_pos s.size with h7 | h7
                · rw [List.eq_nil_of_length_eq_zero (hl0.trans h7)] at h9; cases h9
                · exact h7
              simp; split <;> omega
          have HCALL := Lib.hid hcall
          have HNEW := Lib.hid hnew
          have HMEA := Lib.hid hmea
          have HSZT := Lib.hid hsz
          have HCST := Lib.hid hcs
          have HN := Lib.hid hn
          have HST := Lib.hid hst
          have hgs : w.heap.size < wr.heap.size := Nat.lt_of_lt_of_le (Blk.lt hst.st) (Nat.le_refl _)
          clear hl0 hdrop htk hemp hsx hnx hbl hcs hpl hsz hcall hnew hmea hn hst hfin
          have hgo3 : first = true ∨ (first = false ∧ s.toList.isEmpty = false) := by cases first <;> simp_all
          clear hgo
          rcases hgo3 with rfl | ⟨rfl, hse⟩
          all_goals
            go_wp2_with (refine wpList_copy64 rfl (.tmp 50) (.tmp 51) 209 9 rfl 5 Tryd.underlying209 sizeU8 _ _ rfl s rfl n HN.out _ 251 (heap_alloc_last wr _) rfl ?_)
            intro w3 hb3 hg3
            rw [HCST.out] at hb3
            have hs3 := (HST.out.mine ((Below.refl _ wr).alloc (Nat.le_refl _) _)).grown hg3 (by omega) (by omega) (by omega)
            have HS3 := Lib.hid hs3
            clear hs3 hg3
            go_wp2_with (refine wpList_load_row rfl 251 _ rfl wr.heap.size rfl 251 csT (0, 0) _ hb3 Tryd.underlying251 rfl (by rw [HSZT.out]; exact size251) ?_)
            (with_reducible refine (HCALL.out _ HS3.out).mono ?_)
            rintro e w4 ⟨rfl, hs4⟩
            have HN4 := Lib.hid (HNEW.out _ hs4)
            clear hs4
            go_wp2_with fail
            go_roundw
            case rel => exact HN4.out
            case measure => exact HMEA.out
        · have hgo1 : first = false := by cases first <;> simp_all
          have hgo2 : s.toList.isEmpty = true := by cases h9 : s.toList.isEmpty <;> simp_all
          subst hgo1
          have hse : txt s = [] := by rw [txt_empty] at hgo2; exact List.isEmpty_iff.1 hgo2
          rw [if_neg (by decide), hse, sumR_nil] at hfin
          have HHF := Lib.hid hfin
          have hq0 : Blk (wr.alloc (.cells (bytesA (opart h 0)) 253)) wr.heap.size 253 (bytesA (opart h 0)) := Blk.new _ _ _
          rw [opart_none] at hq0
          have hs0 := hst.mine ((Below.refl _ wr).alloc (Nat.le_refl _) (.cells (bytesA (List.replicate 32 0)) 253))
          have hgs : w.heap.size < wr.heap.size := Nat.lt_of_lt_of_le (Blk.lt hst.st) (Nat.le_refl _)
          have HQ0 := Lib.hid hq0
          have HS0 := Lib.hid hs0
          clear hfin hgo hse hq0 hs0 hst
          go_wp2_with fail
          obtain ⟨ob, hob⟩ : ∃ ob, wr.heap.size = ob := ⟨_, rfl⟩
          have HOB := Lib.hid hob
          rw [hob] at hgs ⊢
          clear hob
          go_loopw [62] (fun i wq => QRel w w.heap.size ob h i wq) (fun i _ => 32 - (intOf i).toNat)
          case atStart => exact ⟨0, t, by omega, rfl, HS0.out, by rw [opart_none, ← HOB.out]; exact HQ0.out⟩
          case round =>
            obtain ⟨k, t2, hk, rfl, hs5, hO5⟩ := hrel
            clear HQ0 HS0
            by_cases hlt : k < 32
            · obtain ⟨q, r, hkq, hq8, hr4⟩ : ∃ q r, k = 4 * q + r ∧ q < 8 ∧ r < 4 := ⟨k / 4, k % 4, by omega, by omega, by omega⟩
              obtain ⟨x, hx⟩ : ∃ x, el h q = x := ⟨_, rfl⟩
              have lx : x < 4294967296 := hx ▸ hs5.hw.at_ q
              have ch : wr.cell? ⟨w.heap.size, q, none⟩ = some (.int .u32 (x : Int)) := hx ▸ (Blk.cell hs5.st q).trans (stA_h h _ q (by rw [hs5.hl]; exact hq8))
              have hol := opart_length h k
              have co : wr.cell? ⟨ob, k, none⟩ = some (.int .u8 ((el (opart h k) k : Nat) : Int)) := (Blk.cell hO5 k).trans (bytesA_get _ k (by omega))
              have fo : wr.frozen? ⟨ob, k, none⟩ = false := Blk.free hO5 k
              have e1 : (k : Int) / 4 = (q : Int) := by omega
              have e2 : (k : Int) % 4 = (r : Int) := by omega
              have hz : ((x / 2 ^ (8 * r) % 256 : Nat) : Int) = ((el h (k / 4) / 2 ^ (8 * (k % 4)) % 256 : Nat) : Int) := by
                rw [show k / 4 = q from by omega, show k % 4 = r from by omega, hx]
              have HZ := Lib.hid hz
              generalize el (opart h k) k = y at co
              clear hkq hx hz hol
              have hr' : r = 0 ∨ r = 1 ∨ r = 2 ∨ r = 3 := by omega
              rcases hr' with rfl | rfl | rfl | rfl
              all_goals
                go_wp2_with fail
                go_roundw
                case rel => exact qstep hlt hs5 hO5 (by omega) (by omega) (by omega) _ (by rw [← HZ.out]; simp only [Nat.reducePow, Nat.reduceMul, Nat.mul_zero, Nat.pow_zero]; omega)
                case measure => simp [intOf]; omega
            · obtain rfl : k = 32 := by omega
              have hol := opart_length h 32
              have hll : ((outB h).map UInt8.ofNat).length = 32 := by simp [outB]
              have hoe := opart_all h
              have hconv := run_convert_bytes_back (P := Tryd.prog) wr 209 9 5 ⟨ob, 0, none⟩ 32 ((outB h).map UInt8.ofNat) Tryd.underlying209 Tryd.underlying5 Tryd.underlying9 (fun j hj => by
                rw [Addr.add_mid, Nat.zero_add]
                have hj' : j < 32 := by omega
                have h9 := (Blk.cell hO5 j).trans (bytesA_get _ j (by omega))
                rw [hoe] at h9
                rw [h9]
                congr 2
                simp [el, outB, hj'])
              rw [hll] at hconv
              have HRES : Hid (sumB key text = ⟨((outB h).map UInt8.ofNat).toArray⟩) := by
                have h9 : sumB key text = ⟨((outB h).map UInt8.ofNat).toArray⟩ := by unfold sumB; rw [HHF.out]
                exact h9
              have hB5 := hs5.bel
              generalize (outB h).map UInt8.ofNat = res at hconv HRES
              clear hol hll hoe
              go_wp2_with fail
              go_ret2
              exact ⟨by rw [HRES.out]; rfl, hB5⟩
  · have hke' : key.toList.isEmpty = false := by simpa using hke
    clear hke
    have hkt : (txt key).take 64 = txt key := List.take_of_length_le (by rw [txt_length]; omega)
    have hkb := padB_by (txt_by key)
    have hkp : (padB (txt key)).length = 64 := padB_length (by rw [txt_length]; omega)
    have hfin : (if false = true then sumR (blkT (blockS (h0 kl) (padB (txt key)) (0 + 64) text.toList.isEmpty) (0 + 64) (txt text)) (0 + 64 + ((txt text).take 64).length) ((txt text).drop 64) else sumR (blockS (h0 kl) (padB (txt key)) (0 + 64) text.toList.isEmpty) (0 + 64) (txt text)) = sumH (txt key) (txt text) := by
      unfold sumH
      rw [txt_empty] at hke'
      rw [if_neg (by decide), hke', if_neg (by decide), txt_length, hkl, txt_empty]
    obtain ⟨cs1, hcs1⟩ : ∃ cs, bytesA (padB (txt key)) = cs := ⟨_, rfl⟩
    have hsz1 : cs1.size = 64 := by rw [← hcs1]; simp [bytesA, hkp]
    have HFIN := Lib.hid hfin
    have HKT := Lib.hid hkt
    have HKP := Lib.hid hkp
    have HKB := Lib.hid hkb
    have HCS := Lib.hid hcs1
    have HSZ := Lib.hid hsz1
    clear hfin hkt hkp hcs1 hsz1 hkb
    have hs0 := fun (o : Obj) => first_new w #[.int .u32 (q0 : Int), .int .u32 3144134277, .int .u32 1013904242, .int .u32 2773480762, .int .u32 1359893119, .int .u32 2600822924, .int .u32 528734635, .int .u32 1541459225, .int .u64 0] 249 o
    have HS0 := Lib.hid hs0
    clear hs0
    go_enter Tryd.func108, Tryd.ntmps108
    go_wp2_with fail
    go_region
    all_goals
      go_wp2_with (refine wpList_copy64 rfl (.tmp 35) (.tmp 36) 209 9 rfl 5 Tryd.underlying209 sizeU8 _ _ rfl key rfl kl (by omega) _ 251 (second_new w _ _ _) rfl ?_)
      intro w1 hb1 hg1
      have hst1 : SSt w w.heap.size (h0 kl) 0 w1 := by
        have h9 := HS0.out (.cells (bytesA (List.replicate 64 0)) 251)
        have h8 : SSt w w.heap.size (h0 kl) 0 ((w.alloc (.cells #[.int .u32 (q0 : Int), .int .u32 3144134277, .int .u32 1013904242, .int .u32 2773480762, .int .u32 1359893119, .int .u32 2600822924, .int .u32 528734635, .int .u32 1541459225, .int .u64 0] 249)).alloc (.cells (bytesA (List.replicate 64 0)) 251)).drew := by
          refine ⟨?_, h0_length kl, h0_ws (by omega), hG.below (((Below.refl _ w).alloc (Nat.le_refl _) _).alloc (by simp) _).drew hG.lt, (((Below.refl _ w).alloc (Nat.le_refl _) _).alloc (by simp) _).drew⟩
          unfold stA
          rw [HH0.out]
          exact h9
        exact h8.grown hg1 (by omega) (by omega) (by have := hG.lt; omega)
      rw [HKT.out, HCS.out] at hb1
      have hblk : Calls Tryd.prog 141 #[.pointer (some ⟨w.heap.size, 0, none⟩), .agg cs1, .int .i64 64, .bool text.toList.isEmpty] w1 fun e w' => e = .returned (.tuple #[]) ∧ SSt w w.heap.size (blockS (h0 kl) (padB (txt key)) (0 + 64) text.toList.isEmpty) (0 + 64) w' := by
        rw [← HCS.out]
        exact hst1.block (Nat.le_refl _) hG.lt _ HKB.out HKP.out 64 (Nat.le_refl _) (by omega) _
      have HBLK := Lib.hid hblk
      clear hblk hst1 hg1
      go_wp2_with (refine wpList_load_row rfl 251 _ rfl (w.heap.size + 1) rfl 251 cs1 (0, 0) _ hb1 Tryd.underlying251 rfl (by rw [HSZ.out]; exact size251) ?_)
      (with_reducible refine HBLK.out.mono ?_)
      rintro e w2 ⟨rfl, hst2⟩
      have HST2 := Lib.hid hst2
      clear hst2 hb1 HBLK
      go_wp2_with fail
      have hsw : w.heap.size ≤ w.heap.size := Nat.le_refl _
      have hs2 : 2 ≤ w.heap.size := hG.lt
      clear c0 c1 c2 c3 c4 c5 c6 c7 E1 E2 HS0 HH0
      go_loopw [1, 8] (fun x f wr => LRel w w.heap.size (sumH (txt key) (txt text)) f x wr) (fun x f _ => lmeas f x)
      case atStart => exact ⟨false, text, _, _, rfl, rfl, HST2.out, by omega, HFIN.out⟩
      case round =>
        obtain ⟨first, s, h, t, rfl, rfl, hst, htl, hfin⟩ := hrel
        clear HFIN HST2
        by_cases hgo : first = true ∨ s.toList.isEmpty = false
        · obtain ⟨n, hn⟩ : ∃ n, n = min s.size 64 := ⟨_, rfl⟩
          have hl0 : (txt s).length = s.size := txt_length s
          have hdrop : txt (s.extract n s.size) = (txt s).drop 64 := by
            rw [txt_extract]
            by_cases h9 : s.size ≤ 64
            · rw [List.drop_eq_nil_of_le (by omega), List.drop_eq_nil_of_le (by omega)]
            · rw [show n = 64 from by omega]
          have htk : ((txt s).take 64).length = n := by rw [List.length_take]; omega
          have hns : n ≤ s.size := by omega
          have hn64 : n ≤ 64 := by omega
          have hemp : (s.extract n s.size).toList.isEmpty = ((txt s).drop 64).isEmpty := by rw [txt_empty, hdrop]
          have hsx : (s.extract n s.size).size = s.size - n := by rw [ByteArray.size_extract]; omega
          have hnx : sumR (blkT h t (txt s)) (t + n) ((txt s).drop 64) = sumH (txt key) (txt text) := by
            rw [← hfin]
            split
            · rw [htk]
            · rename_i hf
              rw [sumR_step h t (l := txt s) (by
                intro e
                rcases hgo with h9 | h9
                · exact hf h9
                · rw [txt_empty, e] at h9; cases h9), htk]
          have hbl : blkT h t (txt s) = blockS h (padB ((txt s).take 64)) (t + n) ((txt s).drop 64).isEmpty := by unfold blkT; rw [htk]
          obtain ⟨csT, hcs⟩ : ∃ cs, bytesA (padB ((txt s).take 64)) = cs := ⟨_, rfl⟩
          have hpl : (padB ((txt s).take 64)).length = 64 := padB_length (by rw [htk]; exact hn64)
          have hsz : csT.size = 64 := by rw [← hcs]; simp [bytesA, hpl]
          have hcall : ∀ W, SSt w w.heap.size h t W → Calls Tryd.prog 141 #[.pointer (some ⟨w.heap.size, 0, none⟩), .agg csT, .int .i64 n, .bool (s.extract n s.size).toList.isEmpty] W fun e w' => e = .returned (.tuple #[]) ∧ SSt w w.heap.size (blkT h t (txt s)) (t + n) w' := fun W hW => by
            rw [hemp, ← hcs, hbl]
            exact hW.block (Nat.le_refl _) hG.lt _ (padB_by ((txt_by s).take 64)) hpl n hn64 (by omega) _
          have hnew : ∀ W, SSt w w.heap.size (blkT h t (txt s)) (t + n) W → LRel w w.heap.size (sumH (txt key) (txt text)) (.bool false) (.string (s.extract n s.size)) W := fun W hW =>
            ⟨false, _, _, _, rfl, rfl, hW, by rw [hsx]; omega, by rw [if_neg (by decide), hdrop]; exact hnx⟩
          have hmea : lmeas (.bool false) (.string (s.extract n s.size)) < lmeas (.bool first) (.string s) := by
            rw [lmeas_eq, lmeas_eq, hsx]
            rcases hgo with h9 | h9
            · subst h9; simp; omega
            · have h8 : 0 < s.size := by
                rw [txt_empty] at h9
                rcases Nat.eq_zero_or_pos s.size with h7 | h7
                · rw [List.eq_nil_of_length_eq_zero (hl0.trans h7)] at h9; cases h9
                · exact h7
              simp; split <;> omega
          have HCALL := Lib.hid hcall
          have HNEW := Lib.hid hnew
          have HMEA := Lib.hid hmea
          have HSZT := Lib.hid hsz
          have HCST := Lib.hid hcs
          have HN := Lib.hid hn
          have HST := Lib.hid hst
          have hgs : w.heap.size < wr.heap.size := Nat.lt_of_lt_of_le (Blk.lt hst.st) (Nat.le_refl _)
          clear hl0 hdrop htk hemp hsx hnx hbl hcs hpl hsz hcall hnew hmea hn hst hfin
          have hgo3 : first = true ∨ (first = false ∧ s.toList.isEmpty = false) := by cases first <;> simp_all
          clear hgo
          rcases hgo3 with rfl | ⟨rfl, hse⟩
          all_goals
            go_wp2_with (refine wpList_copy64 rfl (.tmp 50) (.tmp 51) 209 9 rfl 5 Tryd.underlying209 sizeU8 _ _ rfl s rfl n HN.out _ 251 (heap_alloc_last wr _) rfl ?_)
            intro w3 hb3 hg3
            rw [HCST.out] at hb3
            have hs3 := (HST.out.mine ((Below.refl _ wr).alloc (Nat.le_refl _) _)).grown hg3 (by omega) (by omega) (by omega)
            have HS3 := Lib.hid hs3
            clear hs3 hg3
            go_wp2_with (refine wpList_load_row rfl 251 _ rfl wr.heap.size rfl 251 csT (0, 0) _ hb3 Tryd.underlying251 rfl (by rw [HSZT.out]; exact size251) ?_)
            (with_reducible refine (HCALL.out _ HS3.out).mono ?_)
            rintro e w4 ⟨rfl, hs4⟩
            have HN4 := Lib.hid (HNEW.out _ hs4)
            clear hs4
            go_wp2_with fail
            go_roundw
            case rel => exact HN4.out
            case measure => exact HMEA.out
        · have hgo1 : first = false := by cases first <;> simp_all
          have hgo2 : s.toList.isEmpty = true := by cases h9 : s.toList.isEmpty <;> simp_all
          subst hgo1
          have hse : txt s = [] := by rw [txt_empty] at hgo2; exact List.isEmpty_iff.1 hgo2
          rw [if_neg (by decide), hse, sumR_nil] at hfin
          have HHF := Lib.hid hfin
          have hq0 : Blk (wr.alloc (.cells (bytesA (opart h 0)) 253)) wr.heap.size 253 (bytesA (opart h 0)) := Blk.new _ _ _
          rw [opart_none] at hq0
          have hs0 := hst.mine ((Below.refl _ wr).alloc (Nat.le_refl _) (.cells (bytesA (List.replicate 32 0)) 253))
          have hgs : w.heap.size < wr.heap.size := Nat.lt_of_lt_of_le (Blk.lt hst.st) (Nat.le_refl _)
          have HQ0 := Lib.hid hq0
          have HS0 := Lib.hid hs0
          clear hfin hgo hse hq0 hs0 hst
          go_wp2_with fail
          obtain ⟨ob, hob⟩ : ∃ ob, wr.heap.size = ob := ⟨_, rfl⟩
          have HOB := Lib.hid hob
          rw [hob] at hgs ⊢
          clear hob
          go_loopw [62] (fun i wq => QRel w w.heap.size ob h i wq) (fun i _ => 32 - (intOf i).toNat)
          case atStart => exact ⟨0, t, by omega, rfl, HS0.out, by rw [opart_none, ← HOB.out]; exact HQ0.out⟩
          case round =>
            obtain ⟨k, t2, hk, rfl, hs5, hO5⟩ := hrel
            clear HQ0 HS0
            by_cases hlt : k < 32
            · obtain ⟨q, r, hkq, hq8, hr4⟩ : ∃ q r, k = 4 * q + r ∧ q < 8 ∧ r < 4 := ⟨k / 4, k % 4, by omega, by omega, by omega⟩
              obtain ⟨x, hx⟩ : ∃ x, el h q = x := ⟨_, rfl⟩
              have lx : x < 4294967296 := hx ▸ hs5.hw.at_ q
              have ch : wr.cell? ⟨w.heap.size, q, none⟩ = some (.int .u32 (x : Int)) := hx ▸ (Blk.cell hs5.st q).trans (stA_h h _ q (by rw [hs5.hl]; exact hq8))
              have hol := opart_length h k
              have co : wr.cell? ⟨ob, k, none⟩ = some (.int .u8 ((el (opart h k) k : Nat) : Int)) := (Blk.cell hO5 k).trans (bytesA_get _ k (by omega))
              have fo : wr.frozen? ⟨ob, k, none⟩ = false := Blk.free hO5 k
              have e1 : (k : Int) / 4 = (q : Int) := by omega
              have e2 : (k : Int) % 4 = (r : Int) := by omega
              have hz : ((x / 2 ^ (8 * r) % 256 : Nat) : Int) = ((el h (k / 4) / 2 ^ (8 * (k % 4)) % 256 : Nat) : Int) := by
                rw [show k / 4 = q from by omega, show k % 4 = r from by omega, hx]
              have HZ := Lib.hid hz
              generalize el (opart h k) k = y at co
              clear hkq hx hz hol
              have hr' : r = 0 ∨ r = 1 ∨ r = 2 ∨ r = 3 := by omega
              rcases hr' with rfl | rfl | rfl | rfl
              all_goals
                go_wp2_with fail
                go_roundw
                case rel => exact qstep hlt hs5 hO5 (by omega) (by omega) (by omega) _ (by rw [← HZ.out]; simp only [Nat.reducePow, Nat.reduceMul, Nat.mul_zero, Nat.pow_zero]; omega)
                case measure => simp [intOf]; omega
            · obtain rfl : k = 32 := by omega
              have hol := opart_length h 32
              have hll : ((outB h).map UInt8.ofNat).length = 32 := by simp [outB]
              have hoe := opart_all h
              have hconv := run_convert_bytes_back (P := Tryd.prog) wr 209 9 5 ⟨ob, 0, none⟩ 32 ((outB h).map UInt8.ofNat) Tryd.underlying209 Tryd.underlying5 Tryd.underlying9 (fun j hj => by
                rw [Addr.add_mid, Nat.zero_add]
                have hj' : j < 32 := by omega
                have h9 := (Blk.cell hO5 j).trans (bytesA_get _ j (by omega))
                rw [hoe] at h9
                rw [h9]
                congr 2
                simp [el, outB, hj'])
              rw [hll] at hconv
              have HRES : Hid (sumB key text = ⟨((outB h).map UInt8.ofNat).toArray⟩) := by
                have h9 : sumB key text = ⟨((outB h).map UInt8.ofNat).toArray⟩ := by unfold sumB; rw [HHF.out]
                exact h9
              have hB5 := hs5.bel
              generalize (outB h).map UInt8.ofNat = res at hconv HRES
              clear hol hll hoe
              go_wp2_with fail
              go_ret2
              exact ⟨by rw [HRES.out]; rfl, hB5⟩
end Go.Proofs.YtljpjckklkpipaaDoor.Bt
