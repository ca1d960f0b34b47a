/- Walks of package table: a new row. -/
import Derived.Test.YtljpjckklkpipaaDoorTw
import Derived.Test.YtljpjckklkpipaaDoorAz
import Derived.Deep.RegionLaw
import Derived.Deep.RegionLawGrows
namespace Go.Proofs.YtljpjckklkpipaaDoor.Tw
open Go.RowKit Wd Tl
set_option maxRecDepth 100000
set_option linter.unusedSimpArgs false

theorem info180 : (Tryd.prog.info? 180).map (fun i => (i.zero, i.size, i.bytes)) = some (some (.agg #[.string ⟨#[]⟩, .string ⟨#[]⟩]), 2, 32) := by kernel_rfl

theorem set_full (tb : Nat) (v : Value) (g : Option Nat) (rows : List (ByteArray × ByteArray)) (key u : ByteArray) (w : World) (h : Tab w tb v g rows) (hh : has rows key = false) (hl : rows.length = 16) :
    Calls Tryd.prog 100 #[.pointer (some ⟨tb, 0, none⟩), .string key, .string u] w fun e w' => e = .returned (.int .i64 5) ∧ Below w.heap.size w w' := by
  obtain ⟨A, c, rfl⟩ : ∃ A c, v = .slice A 16 c := by
    rcases h.row with ⟨_, hv, hr⟩ | ⟨b, cap, cur, hg, hv, r⟩
    · subst hr; simp at hl
    · exact ⟨_, _, by rw [hv, hl]⟩
  have fnd := find_any tb _ _ rows key w h
  rw [hh] at fnd
  clear hh hl
  go_enter Tryd.func100, Tryd.ntmps100
  go_wp2_with (go_at_call 99; refine fnd.mono ?_; rintro e w1 ⟨rfl, hb1⟩; have c1 := (h.below hb1).cell)
  go_ret
  exact ⟨rfl, hb1⟩

theorem cells_one (rows : List (ByteArray × ByteArray)) : ∀ u ∈ cellsOf rows, u.oneCell' = true := by
  intro u hu
  unfold cellsOf at hu
  rw [List.mem_flatMap] at hu
  obtain ⟨r, _, hr⟩ := hu
  simp at hr
  rcases hr with rfl | rfl <;> rfl
theorem cell_two_lit (w : World) (key u : ByteArray) (j : Nat) (u' : Value) (hj : [Value.string key, Value.string u][j]? = some u') :
    (w.alloc (.cells #[.string key, .string u] 180)).cell? ((⟨w.heap.size, 0, none⟩ : Addr).add j) = some u' := by
  rw [Addr.add_lit]
  match j, hj with
  | 0, hj => simp at hj; subst hj; simp
  | 1, hj => simp at hj; subst hj; simp
theorem Tab.row_lt {w : World} {tb : Nat} {v : Value} {b : Nat} {rows : List (ByteArray × ByteArray)} (h : Tab w tb v (some b) rows) : b < w.heap.size := by
  rcases h.row with ⟨hg, _⟩ | ⟨b', cap, cur, hg, hv, hh, _⟩
  · cases hg
  · injection hg with hg; subst hg; exact (Array.getElem?_eq_some_iff.1 hh).1
theorem cells_drop : ∀ (rows : List (ByteArray × ByteArray)) (i : Nat), cellsOf (rows.drop i) = (cellsOf rows).drop (i * 2)
  | [], i => by simp [cellsOf]
  | x :: rows, 0 => by simp
  | x :: rows, i + 1 => by
    rw [List.drop_succ_cons, cells_drop rows i]
    unfold cellsOf
    rw [List.flatMap_cons, show (i + 1) * 2 = i * 2 + 1 + 1 from by omega]
    simp
theorem cells_take : ∀ (rows : List (ByteArray × ByteArray)) (i : Nat), cellsOf (rows.take i) = (cellsOf rows).take (i * 2)
  | [], i => by simp [cellsOf]
  | x :: rows, 0 => by simp [cellsOf]
  | x :: rows, i + 1 => by
    have ih := cells_take rows i
    unfold cellsOf at ih ⊢
    rw [List.take_succ_cons, List.flatMap_cons, ih, List.flatMap_cons, show (i + 1) * 2 = i * 2 + 1 + 1 from by omega]
    simp
theorem cells_append (a b : List (ByteArray × ByteArray)) : cellsOf (a ++ b) = cellsOf a ++ cellsOf b := by unfold cellsOf; rw [List.flatMap_append]
/-- the rows' cells, from a row on -/
theorem Tab.cells_all {w : World} {tb : Nat} {v : Value} {b : Nat} {rows : List (ByteArray × ByteArray)} (h : Tab w tb v (some b) rows) (j : Nat) (u : Value) (hj : (cellsOf rows)[j]? = some u) : w.cell? ⟨b, j, none⟩ = some u := by
  rcases h.row with ⟨hg, _⟩ | ⟨b', cap, cur, hg, hv, hh, _, _, _, ht⟩
  · cases hg
  · injection hg with hg
    subst hg
    rw [cell_of_row w b _ _ _ _ hh]
    rw [← ht, List.getElem?_take] at hj
    split at hj
    · simpa using hj
    · cases hj
theorem Tab.cells_from {w : World} {tb : Nat} {v : Value} {b : Nat} {rows : List (ByteArray × ByteArray)} (h : Tab w tb v (some b) rows) (i j : Nat) (u : Value) (hj : (cellsOf (rows.drop i))[j]? = some u) : w.cell? ⟨b, i * 2 + j, none⟩ = some u := by
  rw [cells_drop, List.getElem?_drop] at hj
  exact h.cells_all _ _ hj

/-- nothing that was there has turned -/
theorem keeps_of_lit {w w' : World} {o : Obj} (hg : (w.drew.alloc o).grownBy w' none) : Kp (fun _ => False) w w' :=
  ((Kp.of_below (Below.refl _ w)).drew.alloc o).trans ⟨hg.os, hg.tape, hg.output, hg.size, fun k hk _ => hg.block k hk (by simp)⟩
theorem Kp.cellB {w w' : World} (h : Kp (fun _ => False) w w') {p : Addr} (hp : p.block < w.heap.size) : w'.cell? p = w.cell? p := World.cell?_of_block (h.block _ hp (fun e => e))
theorem Kp.frozenB {w w' : World} (h : Kp (fun _ => False) w w') {p : Addr} (hp : p.block < w.heap.size) : w'.frozen? p = w.frozen? p := World.frozen?_of_block (h.block _ hp (fun e => e))
theorem cells_one2 (key u : ByteArray) (rows : List (ByteArray × ByteArray)) : ∀ x ∈ [Value.string key, Value.string u] ++ cellsOf rows, x.oneCell' = true := by
  intro x hx
  rcases List.mem_append.1 hx with h | h
  · simp at h; rcases h with rfl | rfl <;> rfl
  · exact cells_one _ x h
theorem Tab.take_in {w w' : World} {tb : Nat} {v : Value} {b : Nat} {rows : List (ByteArray × ByteArray)} (h : Tab w tb v (some b) rows) (i : Nat) (hk : Kp (fun _ => False) w w') :
    ∀ a : Addr, some (⟨b, 0, none⟩ : Addr) = some a → ∀ j u', (cellsOf (rows.take i))[j]? = some u' → w'.cell? (a.add j) = some u' := by
  intro a ha j u' hj
  injection ha with ha
  subst ha
  rw [Addr.add_lit, hk.cellB (by exact h.row_lt)]
  rw [cells_take, List.getElem?_take] at hj
  split at hj
  · rw [Nat.zero_add]; exact h.cells_all j u' hj
  · cases hj

theorem srt_ins {rows : List (ByteArray × ByteArray)} {key : ByteArray} (hs : Srt rows) (hh : has rows key = false) (u : ByteArray) : Srt (rows.take (lb rows key) ++ (key, u) :: rows.drop (lb rows key)) := by
  unfold Srt at hs ⊢
  have hd : rows.take (lb rows key) ++ rows.drop (lb rows key) = rows := List.take_append_drop _ _
  rw [← hd, List.pairwise_append] at hs
  obtain ⟨h1, h2, h3⟩ := hs
  have lo : ∀ r ∈ rows.take (lb rows key), cmp r.1 key < 0 := fun r hr => by
    obtain ⟨t, ht, he⟩ := List.getElem_of_mem hr
    rw [List.length_take] at ht
    rw [List.getElem_take] at he
    exact lb_lt key rows t r (by omega) (by rw [List.getElem?_eq_getElem (by omega), he])
  have hi : ∀ r ∈ rows.drop (lb rows key), cmp key r.1 < 0 := fun r hr => by
    obtain ⟨t, ht, he⟩ := List.getElem_of_mem hr
    rw [List.length_drop] at ht
    rw [List.getElem_drop] at he
    have hs' : Srt rows := by unfold Srt; rw [← hd, List.pairwise_append]; exact ⟨h1, h2, h3⟩
    have hg := lb_ge key rows hs' (lb rows key + t) r (by omega) (by rw [List.getElem?_eq_getElem (by omega), he])
    have hne : cmp r.1 key ≠ 0 := fun e => by
      have e1 := cmp_eq e
      have : has rows key = true := by
        unfold has
        rw [List.any_eq_true]
        exact ⟨r, by rw [← he]; exact List.getElem_mem _, by simpa using e1⟩
      rw [hh] at this; cases this
    have := cmp_neg r.1 key
    omega
  rw [List.pairwise_append]
  refine ⟨h1, List.pairwise_cons.2 ⟨hi, h2⟩, fun a ha b hb => ?_⟩
  rcases List.mem_cons.1 hb with rfl | hb
  · exact lo a ha
  · exact h3 a ha b hb
/-- the table behind the store of a new rows' slice -/
theorem Tab.made {w1 w : World} {tb : Nat} {o : Array Value} {base n : Nat} {g cap : Nat} {cells : List Value} {rows : List (ByteArray × ByteArray)} (hk : w.heap[tb]? = w1.heap[tb]?) (hb : w1.heap[tb]? = some (.cells o 177 (0, 0)))
    (ho : w.ownsRow base 180 2 (.slice (some ⟨g, 0, none⟩) n cap) n cells) (hlt : tb < base) (hn : rows.length = n) (h16 : n ≤ 16) (hs : Srt rows) (hc : cells = cellsOf rows) (ho1 : o.size = 1 := by rfl) :
    Tab (w.setCell ⟨tb, 0, none⟩ (.slice (some ⟨g, 0, none⟩) n cap)) tb (.slice (some ⟨g, 0, none⟩) n cap) (some g) rows := by
  have hh := hk.trans hb
  refine ⟨?_, by omega, hs, ?_⟩
  · obtain ⟨l⟩ := o
    match l, ho1 with
    | [x], _ => simp [World.setCell, Array.getElem?_modify, hh]
  · rcases ho.2 with ⟨h0, _⟩ | ⟨g', cap', cur, he, hg, hhg, hl, hm, hsz, ht⟩
    · cases h0
    · injection he with he1 _ he3
      injection he1 with he1
      injection he1 with he1
      subst he1 he3
      refine .inr ⟨g, cap, cur, rfl, by rw [hn], ?_, by omega, hm, by omega, by rw [hn, ht, hc]⟩
      rw [Below.heap_setCell _ _ _ _ (by show g ≠ tb; omega)]
      exact hhg

set_option maxHeartbeats 1000000 in
theorem set_new3 (tb : Nat) (b cap : Nat) (rows : List (ByteArray × ByteArray)) (key u : ByteArray) (w : World) (h : Tab w tb (.slice (some ⟨b, 0, none⟩) rows.length cap) (some b) rows) (hh : has rows key = false) (hl : rows.length < 16) (hi : lb rows key < rows.length) :
    Calls Tryd.prog 100 #[.pointer (some ⟨tb, 0, none⟩), .string key, .string u] w fun e w' => e = .returned (.int .i64 0) ∧ ∃ v' g', Tab w' tb v' (some g') (rows.take (lb rows key) ++ (key, u) :: rows.drop (lb rows key)) ∧ w.heap.size ≤ g' ∧ Kp (fun k => k = tb) w w' := by
  obtain ⟨i0, hi0, hz0, hz1, hz2⟩ := info_parts info180
  have fnd := find_any tb _ _ rows key w h
  rw [hh] at fnd
  obtain ⟨i, hie⟩ : ∃ i, i = lb rows key := ⟨_, rfl⟩
  rw [← hie] at fnd hi ⊢
  have hf := h.few
  have hcap : rows.length ≤ cap := by
    obtain ⟨b', cap', hg, hv, hbl, hbt, hcap, _⟩ := h.at_ hi
    injection hv with _ _ hv
    omega
  have hne : ((rows.length : Int) == 16) = false := by rw [beq_eq_false_iff_ne]; omega
  have HS : Hid (Srt (rows.take i ++ (key, u) :: rows.drop i)) := hie ▸ srt_ins h.srt hh u
  clear hie hh
  go_enter Tryd.func100, Tryd.ntmps100
  go_wp2_with (first
    | (go_at_call 99; refine fnd.mono ?_; rintro e w1 ⟨rfl, hb1⟩; have h1 := h.below hb1; have c1 := h1.cell; have f1 := h1.free))
  have hic : i ≤ cap := by omega
  have hil : i ≤ rows.length := by omega
  have hci : ¬ cap = i := by omega
  have s1 : Hid ((cellsOf (rows.drop i)).length = (rows.length - i) * 2) := by show _ = _; rw [cells_length, List.length_drop]
  have s2 : Hid (∀ u ∈ cellsOf (rows.drop i), u.oneCell' = true) := cells_one _
  have s3 : Hid (∀ j u', (cellsOf (rows.drop i))[j]? = some u' → (w1.drew.alloc (.cells #[.string key, .string u] 180)).cell? ((⟨b, i * 2, none⟩ : Addr).add j) = some u') := fun j u' hj => by
    rw [Addr.add_lit, World.cell?_alloc_lt _ _ _ (by exact h1.row_lt)]
    exact h1.cells_from i j u' hj
  have s4 : Hid (∀ a : Addr, some (⟨w1.heap.size, 0, none⟩ : Addr) = some a → ∀ j u', [Value.string key, Value.string u][j]? = some u' → (w1.drew.alloc (.cells #[.string key, .string u] 180)).cell? (a.add j) = some u') := fun a ha j u' hj => by
    injection ha with ha
    subst ha
    exact cell_two_lit w1.drew key u j u' hj
  have en := World.new_ne w1 ⟨tb, 0, none⟩ c1
  have hlt1 := h1.lt
  go_region_law (first
    | (refine step_append_grows rfl (.tmp 41) (.tmp 47) 175 rfl 180 i0 _ 2 32 Tryd.underlying175 hi0 hz0 hz1 hz2 rfl (by decide) (some ⟨w1.heap.size, 0, none⟩) 1 1 [.string key, .string u] (by simp [Act.eval, Act.put]) (fun h => by cases h) rfl s4.out ⟨b, i * 2, none⟩ (rows.length - i) (cap - i) (cellsOf (rows.drop i)) (by simp [Act.eval, Act.put]) s1.out s3.out s2.out (by omega) (by unfold maxLen; omega) (by omega) ?_; intro v2 w2 hown2 hg2; obtain ⟨g2, c2, rfl, hgb2, hgl2⟩ := hown2.form (by omega); have hk2 := keeps_of_lit hg2; have cc2 := (Kp.cellB hk2 (p := ⟨tb, 0, none⟩) hlt1).trans c1; have s5 := h1.take_in i hk2; have s6 := hown2.cells (g := g2) rfl; have S5 := Lib.hid s5; have S6 := Lib.hid s6; clear s5 s6)
    | (refine step_append_grows rfl (.tmp 37) (.tmp 48) 175 rfl 180 i0 _ 2 32 Tryd.underlying175 hi0 hz0 hz1 hz2 rfl (by decide) (some ⟨b, 0, none⟩) i i (cellsOf (rows.take i)) (by simp [Act.eval, Act.put]) (fun h => by cases h) (by rw [cells_length, List.length_take]; omega) (fun a ha j u' hj => S5.out a ha j u' hj) ⟨g2, 0, none⟩ (1 + (rows.length - i)) c2 ([.string key, .string u] ++ cellsOf (rows.drop i)) (by simp [Act.eval, Act.put]) (by rw [List.length_append, s1.out]; simp; omega) (fun j u' hj => S6.out j u' hj) (cells_one2 _ _ _) (by omega) (by unfold maxLen; omega) (by omega) ?_; intro v3 w3 hown3 hg3; have hk3 := hk2.trans (Kp.of_below (w' := w3) ⟨hg3.os, hg3.tape, hg3.output, hg3.size, fun k hk => hg3.block k hk (by simp)⟩); have c3 := (Kp.cellB hk3 (p := ⟨tb, 0, none⟩) hlt1).trans c1; have f3 := (Kp.frozenB hk3 (p := ⟨tb, 0, none⟩) hlt1).trans f1; obtain ⟨g3, cp3, rfl, hgb3, hgl3⟩ := hown3.form (by omega)))
  all_goals
    have hT := Tab.made (rows := rows.take i ++ (key, u) :: rows.drop i) (hk3.block tb hlt1 (fun e => e)) h1.blk hown3 (by have := hk2.size; omega) (by rw [List.length_append, List.length_cons, List.length_take, List.length_drop]; omega) (by omega) HS.out (by rw [cells_append]; rfl)
    have hK : Kp (fun k => k = tb) w (w3.setCell ⟨tb, 0, none⟩ (.slice (some ⟨g3, 0, none⟩) (i + (1 + (rows.length - i))) cp3)) := ((Kp.of_below hb1).trans (hk3.mono (fun k e => e.elim))).setCell (S := fun k => k = tb) (p := ⟨tb, 0, none⟩) rfl _
    have hz : w.heap.size ≤ g3 := by have := hb1.size; have := hk2.size; omega
    clear hk3 hk2 hown3 hown2 hg2 hg3 c3 f3 cc2 S5 S6 s1 s2 s3 s4 HS
    have HT := Lib.hid hT
    have HK := Lib.hid hK
    clear hT hK
    go_wp2_with fail
    go_ret
    exact ⟨rfl, _, _, HT.out, hz, HK.out⟩
end Go.Proofs.YtljpjckklkpipaaDoor.Tw
