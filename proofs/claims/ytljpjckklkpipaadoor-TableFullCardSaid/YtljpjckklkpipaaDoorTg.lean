/- Walks of package table: Do deletes. -/
import Derived.Test.YtljpjckklkpipaaDoorTf
namespace Go.Proofs.YtljpjckklkpipaaDoor.Tw
open Go.RowKit Wd Tl Ck
set_option maxRecDepth 100000
set_option linter.unusedSimpArgs false

theorem srt_del {rows : List (ByteArray × ByteArray)} (h : Srt rows) (i : Nat) : Srt (rows.take i ++ rows.drop (i + 1)) := by
  unfold Srt at h ⊢
  refine h.sublist ?_
  conv => rhs; rw [← List.take_append_drop i rows]
  refine List.Sublist.append (List.Sublist.refl _) ?_
  rw [← List.tail_drop]
  exact List.tail_sublist _
/-- the table behind the store of fewer of its own rows -/
theorem Tab.cut {w : World} {tb : Nat} {b n cap : Nat} {rows : List (ByteArray × ByteArray)} (h : Tab w tb (.slice (some ⟨b, 0, none⟩) n cap) (some b) rows) (i : Nat) (hi : i ≤ rows.length) :
    Tab (w.setCell ⟨tb, 0, none⟩ (.slice (some ⟨b, 0, none⟩) i i)) tb (.slice (some ⟨b, 0, none⟩) i i) (some b) (rows.take i) := by
  have hbt : b ≠ tb := by
    rintro rfl
    rcases h.row with ⟨hg, _⟩ | ⟨b', cap', cur, hg, hv, hh, _⟩
    · cases hg
    · injection hg with hg
      subst hg
      have := h.blk
      rw [hh] at this
      injection this with this
      injection this with _ h2
      cases h2
  refine ⟨?_, by rw [List.length_take]; have := h.few; omega, ?_, ?_⟩
  · have hh := h.blk
    simp [World.setCell, Array.getElem?_modify, hh]
  · have := h.srt
    unfold Srt at this ⊢
    exact this.sublist (List.take_sublist _ _)
  · rcases h.row with ⟨hg, _⟩ | ⟨b', cap', cur, hg, hv, hh, hl, hm, hs, ht⟩
    · cases hg
    · injection hg with hg
      subst hg
      have hlen : (rows.take i).length = i := by rw [List.length_take]; omega
      refine .inr ⟨b, i, cur, rfl, by rw [hlen], ?_, by omega, by have := h.few; unfold maxLen; omega, by omega, ?_⟩
      · rw [Below.heap_setCell _ _ _ _ (by exact hbt)]; exact hh
      · rw [hlen, cells_take, ← ht, List.take_take, Nat.min_eq_left (by omega)]

set_option maxHeartbeats 1000000 in
theorem del_end1 (tb b cap : Nat) (rows : List (ByteArray × ByteArray)) (key v old had : ByteArray) (w : World) (h : Tab w tb (.slice (some ⟨b, 0, none⟩) rows.length cap) (some b) rows) (hc : chk 4 key v old = 0) (hh : has rows key = true) (i : Nat) (hi : lb rows key = i) (hx : rows[i]? = some (key, had)) (_hlc : rows.length ≤ cap) (he : rows.length = i + 1) (hcc : cap = i + 1) :
    Calls Tryd.prog 43 #[.pointer (some ⟨tb, 0, none⟩), .agg #[.int .i64 4, .string key, .string v, .string old]] w fun e w' => e = .returned (.tuple #[.string had, .int .i64 0]) ∧ To w tb (some b) (rows.take i ++ rows.drop (i + 1)) w' := by
  obtain ⟨i0, hi0, hz0, hz1, hz2⟩ := info_parts info180
  have HC := Lib.hid hc
  have HH := Lib.hid hh
  have HI := Lib.hid hi
  have HX := Lib.hid hx
  have hil : i < rows.length := (List.getElem?_eq_some_iff.1 hx).1
  have hf := h.few
  have hic : i ≤ cap := by omega
  have hil2 : i ≤ rows.length := by omega
  have hic3 : i + 1 ≤ cap := by omega
  have hwr : IntKind.i64.wrap ((i : Int) + 1) = (i : Int) + 1 := by rw [IntKind.wrap_i64]; omega
  have hp0 : (0 : Int) ≤ (i : Int) + 1 := by omega
  have hp1 : (i : Int) + 1 ≤ (rows.length : Int) := by omega
  have hp2 : ((i : Int) + 1).toNat = i + 1 := by omega
  subst hcc
  have hq : (i : Int) ≤ (i : Int) + 1 := by omega
  clear hc hh hi hx
  go_enter Tryd.func43, Tryd.ntmps43
  go_wp2_with (first
    | (go_at_call 35; refine (ck_of HC.out _).mono ?_; rintro e w1 ⟨rfl, hb1⟩; have hx1 := box_start hb1; obtain ⟨b0, b1, b2, b3⟩ := box4 hx1; clear hb1)
    | (go_at_call 99; refine (fnd_of HH.out HI.out _ (h.below (box_below hx1))).mono ?_; rintro e w2 ⟨rfl, hb2⟩; have hx2 := box_more hx1 hb2; obtain ⟨d0, d1, d2, d3⟩ := box4 hx2; have h2 := h.below (box_below hx2); have c2 := h2.cell; have f2 := h2.free; obtain ⟨r0, r1, r2⟩ := h2.get HX.out; clear hb2))
  have hlt2 := h2.lt
  go_region_law (refine Az.step_append_zero rfl (.tmp 93) (.tmp 100) 175 rfl 180 i0 Tryd.underlying175 hi0 ⟨b, 0, none⟩ i i (by simp [Act.eval, Act.put]) (by omega) (some ⟨b, 0, none⟩) 0 (by simp [Act.eval, Act.put]) ?_)
  all_goals
    have hcut := Tab.cut (h2.keep (w' := w2.drew) fun k hk _ => rfl) i (by omega)
    have HT : Hid (Tab (w2.drew.setCell ⟨tb, 0, none⟩ (.slice (some ⟨b, 0, none⟩) i i)) tb (.slice (some ⟨b, 0, none⟩) i i) (some b) (rows.take i ++ rows.drop (i + 1))) := by
      have e0 : rows.drop (i + 1) = [] := List.drop_eq_nil_of_le (by omega)
      rw [e0, List.append_nil]; exact hcut
    have HK := Lib.hid (((Kp.of_below (box_below hx2)).drew).setCell (S := fun k => k = tb ∨ some k = some b) (p := ⟨tb, 0, none⟩) (.inl rfl) (.slice (some ⟨b, 0, none⟩) i i))
    clear hcut
    go_wp2_with fail
    go_ret2
    exact ⟨rfl, _, _, HT.out, .inl rfl, HK.out⟩

set_option maxHeartbeats 1000000 in
theorem del_end2 (tb b cap : Nat) (rows : List (ByteArray × ByteArray)) (key v old had : ByteArray) (w : World) (h : Tab w tb (.slice (some ⟨b, 0, none⟩) rows.length cap) (some b) rows) (hc : chk 4 key v old = 0) (hh : has rows key = true) (i : Nat) (hi : lb rows key = i) (hx : rows[i]? = some (key, had)) (_hlc : rows.length ≤ cap) (he : rows.length = i + 1) (hcc : i + 1 < cap) :
    Calls Tryd.prog 43 #[.pointer (some ⟨tb, 0, none⟩), .agg #[.int .i64 4, .string key, .string v, .string old]] w fun e w' => e = .returned (.tuple #[.string had, .int .i64 0]) ∧ To w tb (some b) (rows.take i ++ rows.drop (i + 1)) w' := by
  obtain ⟨i0, hi0, hz0, hz1, hz2⟩ := info_parts info180
  have HC := Lib.hid hc
  have HH := Lib.hid hh
  have HI := Lib.hid hi
  have HX := Lib.hid hx
  have hil : i < rows.length := (List.getElem?_eq_some_iff.1 hx).1
  have hf := h.few
  have hic : i ≤ cap := by omega
  have hil2 : i ≤ rows.length := by omega
  have hic3 : i + 1 ≤ cap := by omega
  have hwr : IntKind.i64.wrap ((i : Int) + 1) = (i : Int) + 1 := by rw [IntKind.wrap_i64]; omega
  have hp0 : (0 : Int) ≤ (i : Int) + 1 := by omega
  have hp1 : (i : Int) + 1 ≤ (rows.length : Int) := by omega
  have hp2 : ((i : Int) + 1).toNat = i + 1 := by omega
  have hci : ¬ cap = i + 1 := by omega
  clear hc hh hi hx
  go_enter Tryd.func43, Tryd.ntmps43
  go_wp2_with (first
    | (go_at_call 35; refine (ck_of HC.out _).mono ?_; rintro e w1 ⟨rfl, hb1⟩; have hx1 := box_start hb1; obtain ⟨b0, b1, b2, b3⟩ := box4 hx1; clear hb1)
    | (go_at_call 99; refine (fnd_of HH.out HI.out _ (h.below (box_below hx1))).mono ?_; rintro e w2 ⟨rfl, hb2⟩; have hx2 := box_more hx1 hb2; obtain ⟨d0, d1, d2, d3⟩ := box4 hx2; have h2 := h.below (box_below hx2); have c2 := h2.cell; have f2 := h2.free; obtain ⟨r0, r1, r2⟩ := h2.get HX.out; clear hb2))
  have hlt2 := h2.lt
  go_region_law (refine Az.step_append_zero rfl (.tmp 93) (.tmp 100) 175 rfl 180 i0 Tryd.underlying175 hi0 ⟨b, 0, none⟩ i i (by simp [Act.eval, Act.put]) (by omega) (some ⟨b, (i + 1) * 2, none⟩) (cap - (i + 1)) (by simp [Act.eval, Act.put]) ?_)
  all_goals
    have hcut := Tab.cut (h2.keep (w' := w2.drew) fun k hk _ => rfl) i (by omega)
    have HT : Hid (Tab (w2.drew.setCell ⟨tb, 0, none⟩ (.slice (some ⟨b, 0, none⟩) i i)) tb (.slice (some ⟨b, 0, none⟩) i i) (some b) (rows.take i ++ rows.drop (i + 1))) := by
      have e0 : rows.drop (i + 1) = [] := List.drop_eq_nil_of_le (by omega)
      rw [e0, List.append_nil]; exact hcut
    have HK := Lib.hid (((Kp.of_below (box_below hx2)).drew).setCell (S := fun k => k = tb ∨ some k = some b) (p := ⟨tb, 0, none⟩) (.inl rfl) (.slice (some ⟨b, 0, none⟩) i i))
    clear hcut
    go_wp2_with fail
    go_ret2
    exact ⟨rfl, _, _, HT.out, .inl rfl, HK.out⟩

set_option maxHeartbeats 1000000 in
theorem del_mid (tb b cap : Nat) (rows : List (ByteArray × ByteArray)) (key v old had : ByteArray) (w : World) (h : Tab w tb (.slice (some ⟨b, 0, none⟩) rows.length cap) (some b) rows) (hc : chk 4 key v old = 0) (hh : has rows key = true) (i : Nat) (hi : lb rows key = i) (hx : rows[i]? = some (key, had)) (_hlc : rows.length ≤ cap) (he : i + 1 < rows.length) :
    Calls Tryd.prog 43 #[.pointer (some ⟨tb, 0, none⟩), .agg #[.int .i64 4, .string key, .string v, .string old]] w fun e w' => e = .returned (.tuple #[.string had, .int .i64 0]) ∧ To w tb (some b) (rows.take i ++ rows.drop (i + 1)) w' := by
  obtain ⟨i0, hi0, hz0, hz1, hz2⟩ := info_parts info180
  have HC := Lib.hid hc
  have HH := Lib.hid hh
  have HI := Lib.hid hi
  have HX := Lib.hid hx
  have hil : i < rows.length := (List.getElem?_eq_some_iff.1 hx).1
  have hf := h.few
  have hic : i ≤ cap := by omega
  have hil2 : i ≤ rows.length := by omega
  have hic3 : i + 1 ≤ cap := by omega
  have hwr : IntKind.i64.wrap ((i : Int) + 1) = (i : Int) + 1 := by rw [IntKind.wrap_i64]; omega
  have hp0 : (0 : Int) ≤ (i : Int) + 1 := by omega
  have hp1 : (i : Int) + 1 ≤ (rows.length : Int) := by omega
  have hp2 : ((i : Int) + 1).toNat = i + 1 := by omega
  have hci : ¬ cap = i + 1 := by omega
  clear hc hh hi hx
  go_enter Tryd.func43, Tryd.ntmps43
  go_wp2_with (first
    | (go_at_call 35; refine (ck_of HC.out _).mono ?_; rintro e w1 ⟨rfl, hb1⟩; have hx1 := box_start hb1; obtain ⟨b0, b1, b2, b3⟩ := box4 hx1; clear hb1)
    | (go_at_call 99; refine (fnd_of HH.out HI.out _ (h.below (box_below hx1))).mono ?_; rintro e w2 ⟨rfl, hb2⟩; have hx2 := box_more hx1 hb2; obtain ⟨d0, d1, d2, d3⟩ := box4 hx2; have h2 := h.below (box_below hx2); have c2 := h2.cell; have f2 := h2.free; obtain ⟨r0, r1, r2⟩ := h2.get HX.out; clear hb2))
  have hlt2 := h2.lt
  have s1 : Hid ((cellsOf (rows.drop (i + 1))).length = (rows.length - (i + 1)) * 2) := by show _ = _; rw [cells_length, List.length_drop]
  have s2 : Hid (∀ u ∈ cellsOf (rows.drop (i + 1)), u.oneCell' = true) := cells_one _
  have s3 : Hid (∀ j u', (cellsOf (rows.drop (i + 1)))[j]? = some u' → w2.drew.cell? ((⟨b, (i + 1) * 2, none⟩ : Addr).add j) = some u') := fun j u' hj => by
    rw [Addr.add_lit]
    exact h2.cells_from (i + 1) j u' hj
  have hk0 : Kp (fun _ => False) w2 w2.drew := (Kp.of_below (Below.refl _ w2)).drew
  have S5 : Hid (∀ a : Addr, some (⟨b, 0, none⟩ : Addr) = some a → ∀ j u', (cellsOf (rows.take i))[j]? = some u' → w2.drew.cell? (a.add j) = some u') := h2.take_in i hk0
  have HS : Hid (Srt (rows.take i ++ rows.drop (i + 1))) := srt_del h.srt i
  go_region_law (refine step_append_grows rfl (.tmp 93) (.tmp 100) 175 rfl 180 i0 _ 2 32 Tryd.underlying175 hi0 hz0 hz1 hz2 rfl (by decide) (some ⟨b, 0, none⟩) i i (cellsOf (rows.take i)) (by simp [Act.eval, Act.put]) (fun h => by cases h) (by rw [cells_length, List.length_take]; omega) (fun a ha j u' hj => S5.out a ha j u' hj) ⟨b, (i + 1) * 2, none⟩ (rows.length - (i + 1)) (cap - (i + 1)) (cellsOf (rows.drop (i + 1))) (by simp [Act.eval, Act.put]) s1.out s3.out s2.out (by omega) (by unfold maxLen; omega) (by omega) ?_; intro v3 w3 hown3 hg3; have hk3 : Kp (fun _ => False) w2 w3 := hk0.trans ⟨hg3.os, hg3.tape, hg3.output, hg3.size, fun k hk _ => hg3.block k hk (by simp)⟩; have c3 := (Kp.cellB hk3 (p := ⟨tb, 0, none⟩) hlt2).trans c2; have f3 := (Kp.frozenB hk3 (p := ⟨tb, 0, none⟩) hlt2).trans f2; obtain ⟨g3, cp3, rfl, hgb3, hgl3⟩ := hown3.form (by omega))
  all_goals
    have hT := Tab.made (rows := rows.take i ++ rows.drop (i + 1)) (hk3.block tb hlt2 (fun e => e)) h2.blk hown3 (by simpa using hlt2) (by rw [List.length_append, List.length_take, List.length_drop]; omega) (by omega) HS.out (by rw [cells_append])
    have hK := ((Kp.of_below (box_below hx2)).trans (hk3.mono (fun k e => e.elim))).setCell (S := fun k => k = tb ∨ some k = some b) (p := ⟨tb, 0, none⟩) (.inl rfl) (.slice (some ⟨g3, 0, none⟩) (i + (rows.length - (i + 1))) cp3)
    have hz : w.heap.size ≤ g3 := by have := (box_below hx2).size; simp at hgb3; omega
    clear hk3 hown3 hg3 c3 f3 s1 s2 s3 S5 HS hk0
    have HT := Lib.hid hT
    have HK := Lib.hid hK
    clear hT hK
    go_wp2_with fail
    go_ret2
    exact ⟨rfl, _, _, HT.out, .inr ⟨_, rfl, hz⟩, HK.out⟩

end Go.Proofs.YtljpjckklkpipaaDoor.Tw
