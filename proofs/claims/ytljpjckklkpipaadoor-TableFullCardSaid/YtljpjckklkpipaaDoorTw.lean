/- Walks of package table: find. -/
import Derived.Test.YtljpjckklkpipaaDoorProg
import Derived.Test.YtljpjckklkpipaaDoorWd
import Derived.Test.YtljpjckklkpipaaDoorTl
import Derived.Test.YtljpjckklkpipaaDoorShelf
namespace Go.Proofs.YtljpjckklkpipaaDoor.Tw
open Go.RowKit Wd Tl
set_option maxRecDepth 100000

/-- the rows' cells -/
def cellsOf (rows : List (ByteArray × ByteArray)) : List Value := rows.flatMap fun r => [.string r.1, .string r.2]

/-- A table: its block tb; its rows' slice v, at the head of block g (none: nil), with room for cap rows. -/
structure Tab (w : World) (tb : Nat) (v : Value) (g : Option Nat) (rows : List (ByteArray × ByteArray)) : Prop where
  blk : w.heap[tb]? = some (.cells #[v] 177 (0, 0))
  few : rows.length ≤ 16
  srt : Srt rows
  row : (g = none ∧ v = .slice none 0 0 ∧ rows = []) ∨ ∃ b cap cur, g = some b ∧ v = .slice (some ⟨b, 0, none⟩) rows.length cap ∧ w.heap[b]? = some (.cells cur 180 (0, 0)) ∧ rows.length ≤ cap ∧ cap ≤ maxLen ∧ cap * 2 ≤ cur.size ∧ cur.toList.take (rows.length * 2) = cellsOf rows

theorem cells_at : ∀ (rows : List (ByteArray × ByteArray)) (i : Nat) (r : ByteArray × ByteArray), rows[i]? = some r → (cellsOf rows)[i * 2]? = some (.string r.1) ∧ (cellsOf rows)[i * 2 + 1]? = some (.string r.2)
  | [], _, _, h => by simp at h
  | x :: rows, 0, r, h => by simp at h; subst h; simp [cellsOf]
  | x :: rows, i + 1, r, h => by
    have ih := cells_at rows i r (by simpa using h)
    unfold cellsOf at ih ⊢
    rw [List.flatMap_cons, show (i + 1) * 2 = i * 2 + 2 from by omega]
    simpa using ih
theorem cells_length (rows : List (ByteArray × ByteArray)) : (cellsOf rows).length = rows.length * 2 := by
  induction rows with
  | nil => rfl
  | cons x rows ih => unfold cellsOf at ih ⊢; rw [List.flatMap_cons, List.length_append, ih]; simp; omega

section
variable {w w' : World} {tb : Nat} {v : Value} {g : Option Nat} {rows : List (ByteArray × ByteArray)}
theorem Tab.cell (h : Tab w tb v g rows) : w.cell? ⟨tb, 0, none⟩ = some v := by rw [cell_of_row w tb 0 _ _ _ h.blk]; rfl
theorem Tab.free (h : Tab w tb v g rows) : w.frozen? ⟨tb, 0, none⟩ = false := by
  have := h.blk
  simp [World.frozen?, this]
theorem Tab.lt (h : Tab w tb v g rows) : tb < w.heap.size := (Array.getElem?_eq_some_iff.1 h.blk).1
/-- where the rows lie -/
theorem Tab.at_ (h : Tab w tb v g rows) {i : Nat} (hi : i < rows.length) : ∃ b cap, g = some b ∧ v = .slice (some ⟨b, 0, none⟩) rows.length cap ∧ b < w.heap.size ∧ b ≠ tb ∧ rows.length ≤ cap ∧
    ∀ j r, rows[j]? = some r → w.cell? ⟨b, j * 2, none⟩ = some (.string r.1) ∧ w.cell? ⟨b, j * 2 + 1, none⟩ = some (.string r.2) ∧ w.frozen? ⟨b, j * 2 + 1, none⟩ = false := by
  rcases h.row with ⟨_, _, hr⟩ | ⟨b, cap, cur, hg, hv, hb, hl, _, hs, ht⟩
  · subst hr; simp at hi
  · refine ⟨b, cap, hg, hv, (Array.getElem?_eq_some_iff.1 hb).1, ?_, hl, fun j r hr => ?_⟩
    · rintro rfl
      have := h.blk
      rw [hb] at this
      injection this with this
      injection this with _ h2
      cases h2
    · have hj := (List.getElem?_eq_some_iff.1 hr).1
      have hc := cells_at rows j r hr
      rw [← ht] at hc
      rw [List.getElem?_take, List.getElem?_take, if_pos (by omega), if_pos (by omega)] at hc
      rw [cell_of_row w b _ _ _ _ hb, cell_of_row w b _ _ _ _ hb]
      exact ⟨by simpa using hc.1, by simpa using hc.2, by simp [World.frozen?, hb]⟩
theorem Tab.keep (h : Tab w tb v g rows) (hb : ∀ k, k < w.heap.size → (k = tb ∨ some k = g) → w'.heap[k]? = w.heap[k]?) : Tab w' tb v g rows where
  blk := (hb tb h.lt (.inl rfl)).trans h.blk
  few := h.few
  srt := h.srt
  row := by
    rcases h.row with h1 | ⟨b, cap, cur, hg, hv, hh, r⟩
    · exact .inl h1
    · exact .inr ⟨b, cap, cur, hg, hv, (hb b (Array.getElem?_eq_some_iff.1 hh).1 (.inr hg.symm)).trans hh, r⟩
theorem Tab.below (h : Tab w tb v g rows) (hb : Below w.heap.size w w') : Tab w' tb v g rows := h.keep fun k hk _ => hb.block k hk
end

theorem Tab.get {w : World} {tb : Nat} {v : Value} {b : Nat} {rows : List (ByteArray × ByteArray)} (h : Tab w tb v (some b) rows) {i : Nat} {k u : ByteArray} (hi : rows[i]? = some (k, u)) :
    w.cell? ⟨b, i * 2, none⟩ = some (.string k) ∧ w.cell? ⟨b, i * 2 + 1, none⟩ = some (.string u) ∧ w.frozen? ⟨b, i * 2 + 1, none⟩ = false := by
  obtain ⟨b', cap, hg, hv, hbl, hbt, hcap, hc⟩ := h.at_ (List.getElem?_eq_some_iff.1 hi).1
  injection hg with hg
  subst hg
  exact hc i _ hi

/-- the comparison that find hands on -/
theorem cmp_any (a b c : ByteArray) (w : World) :
    Calls Tryd.prog 128 #[.agg #[.string a, .string b], .string c] w fun e w' => e = .returned (.int .i64 (cmp a c)) ∧ Below w.heap.size w w' := by
  go_enter Tryd.func128, Tryd.ntmps128
  go_wp2_with (go_at_call 129; refine (Tryd.strings_Compare _ _ _).mono ?_; rintro e w1 ⟨rfl, rfl⟩)
  go_ret
  exact ⟨rfl, (Below.refl _ _).alloc (Nat.le_refl _) _⟩

/-- what a round of the search keeps -/
def SRel (rows : List (ByteArray × ByteArray)) (key : ByteArray) (n : Nat) (w : World) (i j : Value) (wr : World) : Prop :=
  ∃ p q : Nat, i = .int .i64 p ∧ j = .int .i64 q ∧ p ≤ q ∧ q ≤ n ∧ (∀ t r, t < p → rows[t]? = some r → cmp r.1 key < 0) ∧ (∀ r, rows[q]? = some r → ¬ cmp r.1 key < 0) ∧ Below w.heap.size w wr

theorem search_any (tb : Nat) (v : Value) (g : Option Nat) (rows : List (ByteArray × ByteArray)) (key : ByteArray) (w : World) (h : Tab w tb v g rows) :
    Calls Tryd.prog 127 #[v, .string key, .func (.func 128) #[] #[]] w fun e w' => e = .returned (.tuple #[.int .i64 (lb rows key), .bool (has rows key)]) ∧ Below w.heap.size w w' := by
  have hf := h.few
  obtain ⟨A, n, c, rfl, hn⟩ : ∃ A n c, v = .slice A n c ∧ n = rows.length := by
    rcases h.row with ⟨_, hv, hr⟩ | ⟨b, cap, cur, hg, hv, r⟩
    · exact ⟨_, _, _, hv, by rw [hr]; rfl⟩
    · exact ⟨_, _, _, hv, rfl⟩
  have hn16 : n ≤ 16 := by omega
  go_enter Tryd.func127, Tryd.ntmps127
  have HN := Lib.hid hn
  clear hn
  go_wp2_with fail
  go_loopw [9, 10, 11] (fun i j _ wr => SRel rows key n w i j wr)
    (fun i j _ _ => (intOf j).toNat - (intOf i).toNat)
  case atStart => exact ⟨0, n, rfl, rfl, by omega, by omega, fun t r ht => by omega, fun r hr => by have := (List.getElem?_eq_some_iff.1 hr).1; have := HN.out; omega, Below.refl _ _⟩
  case round =>
    obtain ⟨p, q, rfl, rfl, hpq, hq, h1, h2, hb⟩ := hrel
    have H1 := Lib.hid h1
    have H2 := Lib.hid h2
    clear h1 h2
    by_cases hlt : p < q
    · obtain ⟨b, cap, hg, hv, hbl, hbt, hcap, hcell⟩ := h.at_ (i := p) (by have := HN.out; omega)
      injection hv with hA hn2 hc2
      subst hA
      clear hn2 hc2 hg
      have hm : (p + q) / 2 < rows.length := by have := HN.out; omega
      obtain ⟨e1, e2, _⟩ := hcell _ _ (List.getElem?_eq_getElem hm)
      have hr : rows[(p + q) / 2]? = some rows[(p + q) / 2] := List.getElem?_eq_getElem hm
      obtain ⟨⟨rk, rv⟩, hrr⟩ : ∃ r, rows[(p + q) / 2] = r := ⟨_, rfl⟩
      rw [hrr] at e1 e2 hr
      have HR := Lib.hid hr
      have d1 : wr.cell? ⟨b, (p + q) / 2 * 2, none⟩ = some (.string rk) := (hb.cell (p := ⟨b, _, none⟩) hbl).trans e1
      have d2 : wr.cell? ⟨b, (p + q) / 2 * 2 + 1, none⟩ = some (.string rv) := (hb.cell (p := ⟨b, _, none⟩) hbl).trans e2
      clear hr hrr e1 e2 hcell
      by_cases hc : cmp rk key < 0
      · go_wp2_with (go_at_call 128; refine (cmp_any _ _ _ _).mono ?_; rintro e w1 ⟨rfl, hb1⟩)
        go_roundw
        case rel =>
          refine ⟨(p + q) / 2 + 1, q, by go_num, rfl, by omega, by omega, fun t r ht hr => ?_, fun r hr => by have := H2.out r hr; omega, hb.trans (hb1.mono hb.size)⟩
          by_cases ht2 : t = (p + q) / 2
          · subst ht2; rw [HR.out] at hr; injection hr with hr; subst hr; exact hc
          · have hts : t < (p + q) / 2 := by omega
            have h3 := List.pairwise_iff_getElem.1 h.srt t ((p + q) / 2) (List.getElem?_eq_some_iff.1 hr).1 hm hts
            have h4 := (List.getElem?_eq_some_iff.1 HR.out).2
            have h5 := (List.getElem?_eq_some_iff.1 hr).2
            rw [h4, h5] at h3
            exact cmp_trans h3 hc
        case measure => simp [intOf]; omega
      · go_wp2_with (go_at_call 128; refine (cmp_any _ _ _ _).mono ?_; rintro e w1 ⟨rfl, hb1⟩)
        go_roundw
        case rel =>
          refine ⟨p, (p + q) / 2, rfl, by go_num, by omega, by omega, H1.out, fun r hr => ?_, hb.trans (hb1.mono hb.size)⟩
          rw [HR.out] at hr; injection hr with hr; subst hr; exact Int.not_lt.2 hc
        case measure => simp [intOf]; omega
    · obtain rfl : p = q := by omega
      have hp : p ≤ rows.length := by have := HN.out; omega
      have HL : Hid (lb rows key = p) := lb_of key rows p hp H1.out (fun r hr => by have := H2.out r hr; omega)
      by_cases hlast : p < n
      · obtain ⟨b, cap, hg, hv, hbl, hbt, hcap, hcell⟩ := h.at_ (i := p) (by have := HN.out; omega)
        injection hv with hA hn2 hc2
        subst hA
        clear hn2 hc2 hg
        have hm : p < rows.length := by have := HN.out; omega
        obtain ⟨e1, e2, _⟩ := hcell _ _ (List.getElem?_eq_getElem hm)
        have hr : rows[p]? = some rows[p] := List.getElem?_eq_getElem hm
        obtain ⟨⟨rk, rv⟩, hrr⟩ : ∃ r, rows[p] = r := ⟨_, rfl⟩
        rw [hrr] at e1 e2 hr
        have d1 : wr.cell? ⟨b, p * 2, none⟩ = some (.string rk) := (hb.cell (p := ⟨b, _, none⟩) hbl).trans e1
        have d2 : wr.cell? ⟨b, p * 2 + 1, none⟩ = some (.string rv) := (hb.cell (p := ⟨b, _, none⟩) hbl).trans e2
        have HH : Hid ((cmp rk key == 0) = has rows key) := by
          have hl := HL.out
          rw [Bool.eq_iff_iff]
          constructor
          · intro e0
            have e1 := cmp_eq (beq_iff_eq.1 e0)
            exact (has_iff h.srt).2 ⟨rv, by rw [hl, hr, e1]⟩
          · intro e0
            obtain ⟨v', hv'⟩ := (has_iff h.srt).1 e0
            rw [hl, hr] at hv'
            injection hv' with hv'
            injection hv' with hv' _
            rw [hv', cmp_self]; rfl
        clear hr hrr e1 e2 hcell
        go_wp2_with (go_at_call 128; refine (cmp_any _ _ _ _).mono ?_; rintro e w1 ⟨rfl, hb1⟩)
        go_ret2
        exact ⟨by rw [HL.out, ← HH.out]; rfl, hb.trans (hb1.mono hb.size)⟩
      · have HH : Hid (has rows key = false) := by
          cases e0 : has rows key
          · rfl
          · obtain ⟨v', hv'⟩ := (has_iff h.srt).1 e0
            rw [HL.out] at hv'
            have := (List.getElem?_eq_some_iff.1 hv').1
            have := HN.out
            omega
        go_wp2_with fail
        go_ret2
        exact ⟨by rw [HL.out, HH.out]; rfl, hb⟩

theorem find_any (tb : Nat) (v : Value) (g : Option Nat) (rows : List (ByteArray × ByteArray)) (key : ByteArray) (w : World) (h : Tab w tb v g rows) :
    Calls Tryd.prog 99 #[.pointer (some ⟨tb, 0, none⟩), .string key] w fun e w' => e = .returned (.tuple #[.int .i64 (lb rows key), .bool (has rows key)]) ∧ Below w.heap.size w w' := by
  have hc := h.cell
  go_enter Tryd.func99, Tryd.ntmps99
  go_wp2_with (go_at_call 127; refine (search_any tb v g rows key _ h).mono ?_; rintro e w1 ⟨rfl, hb1⟩)
  go_ret2
  exact ⟨rfl, hb1⟩

/-- what may have turned: the table's own block and that of its rows -/
structure Kp (S : Nat → Prop) (w w' : World) : Prop where
  os : w'.os = w.os
  tape : w'.tape = w.tape
  output : w'.output = w.output
  size : w.heap.size ≤ w'.heap.size
  block : ∀ k, k < w.heap.size → ¬ S k → w'.heap[k]? = w.heap[k]?
theorem Kp.of_below {S : Nat → Prop} {w w' : World} (h : Below w.heap.size w w') : Kp S w w' := ⟨h.os, h.tape, h.output, h.size, fun k hk _ => h.block k hk⟩
theorem Kp.trans {S : Nat → Prop} {a b c : World} (h : Kp S a b) (k : Kp S b c) : Kp S a c :=
  ⟨k.os.trans h.os, k.tape.trans h.tape, k.output.trans h.output, Nat.le_trans h.size k.size, fun i hi hs => (k.block i (Nat.lt_of_lt_of_le hi h.size) hs).trans (h.block i hi hs)⟩
theorem Kp.mono {S S' : Nat → Prop} {a b : World} (h : Kp S a b) (hs : ∀ k, S k → S' k) : Kp S' a b := ⟨h.os, h.tape, h.output, h.size, fun i hi hn => h.block i hi (fun e => hn (hs i e))⟩
theorem Kp.setCell {S : Nat → Prop} {a w : World} (h : Kp S a w) {p : Addr} (hp : S p.block) (u : Value) : Kp S a (w.setCell p u) :=
  h.trans ⟨rfl, rfl, rfl, by simp [World.setCell], fun k _ hk => Below.heap_setCell _ _ _ _ (fun e => hk (by rw [e]; exact hp))⟩
theorem Kp.drew {S : Nat → Prop} {a w : World} (h : Kp S a w) : Kp S a w.drew := ⟨h.os, h.tape, h.output, h.size, h.block⟩
theorem Kp.alloc {S : Nat → Prop} {a w : World} (h : Kp S a w) (o : Obj) : Kp S a (w.alloc o) :=
  h.trans ⟨rfl, rfl, rfl, by simp, fun k hk _ => Below.heap_alloc _ _ _ hk⟩
theorem Kp.grown {S : Nat → Prop} {a w w' : World} {row : Option Nat} (h : Kp S a w) (hg : w.grownBy w' row) (hr : ∀ k, row = some k → S k) : Kp S a w' :=
  h.trans ⟨hg.os, hg.tape, hg.output, hg.size, fun k hk hn => hg.block k hk (fun e => hn (hr k e.symm))⟩

theorem srt_set {rows : List (ByteArray × ByteArray)} (h : Srt rows) {i : Nat} {k u u' : ByteArray} (hi : rows[i]? = some (k, u)) : Srt (rows.set i (k, u')) := by
  unfold Srt at h ⊢
  rw [List.pairwise_iff_getElem] at h ⊢
  intro a b ha hb hab
  have hl : i < rows.length := (List.getElem?_eq_some_iff.1 hi).1
  have hv : rows[i] = (k, u) := (List.getElem?_eq_some_iff.1 hi).2
  have h0 := h a b (by simpa using ha) (by simpa using hb) hab
  rw [List.getElem_set, List.getElem_set]
  by_cases h1 : i = a
  · subst h1
    rw [if_pos rfl, if_neg (by omega)]
    rw [hv] at h0; exact h0
  · by_cases h2 : i = b
    · subst h2
      rw [if_neg h1, if_pos rfl]
      rw [hv] at h0; exact h0
    · rw [if_neg h1, if_neg h2]; exact h0
theorem cells_set : ∀ (rows : List (ByteArray × ByteArray)) (i : Nat) (k u u' : ByteArray), rows[i]? = some (k, u) → cellsOf (rows.set i (k, u')) = (cellsOf rows).set (i * 2 + 1) (.string u')
  | [], _, _, _, _, h => by simp at h
  | x :: rows, 0, k, u, u', h => by simp at h; subst h; simp [cellsOf]
  | x :: rows, i + 1, k, u, u', h => by
    have ih := cells_set rows i k u u' (by simpa using h)
    unfold cellsOf at ih ⊢
    rw [List.set_cons_succ, List.flatMap_cons, ih, List.flatMap_cons, show (i + 1) * 2 + 1 = (i * 2 + 1) + 1 + 1 from by omega]
    simp
/-- a value is stored into a row that is there -/
theorem Tab.set_ {w : World} {tb : Nat} {v : Value} {g : Option Nat} {rows : List (ByteArray × ByteArray)} (h : Tab w tb v g rows) {i b : Nat} {k u u' : ByteArray} (hi : rows[i]? = some (k, u)) (hb : g = some b) :
    Tab (w.setCell ⟨b, i * 2 + 1, none⟩ (.string u')) tb v g (rows.set i (k, u')) := by
  have hl : i < rows.length := (List.getElem?_eq_some_iff.1 hi).1
  obtain ⟨b', cap, hg, hv, hbl, hbt, hcap, _⟩ := h.at_ hl
  obtain rfl : b = b' := by rw [hb] at hg; injection hg
  refine ⟨?_, by simpa using h.few, srt_set h.srt hi, ?_⟩
  · rw [Below.heap_setCell _ _ _ _ (by exact Ne.symm hbt)]; exact h.blk
  · rcases h.row with ⟨_, _, hr⟩ | ⟨b', cap, cur, hg', hv', hh, hl1, hm, hs, ht⟩
    · subst hr; simp at hl
    · obtain rfl : b = b' := by rw [hb] at hg'; injection hg'
      refine .inr ⟨b, cap, cur.setIfInBounds (i * 2 + 1) (.string u'), hb, by simpa using hv', ?_, by simpa using hl1, hm, by simpa using hs, ?_⟩
      · simp [World.setCell, Array.getElem?_modify, hh]
      · rw [cells_set rows i k u u' hi, ← ht, Array.toList_setIfInBounds, List.length_set, List.take_set]

theorem set_there (tb : Nat) (v : Value) (g : Option Nat) (rows : List (ByteArray × ByteArray)) (key u u' : ByteArray) (w : World) (h : Tab w tb v g rows) (hi : rows[lb rows key]? = some (key, u)) :
    Calls Tryd.prog 100 #[.pointer (some ⟨tb, 0, none⟩), .string key, .string u'] w fun e w' => e = .returned (.int .i64 0) ∧ Tab w' tb v g (rows.set (lb rows key) (key, u')) ∧ Kp (fun k => some k = g) w w' := by
  have hh := (has_iff h.srt).2 ⟨u, hi⟩
  have hl := (List.getElem?_eq_some_iff.1 hi).1
  obtain ⟨b, cap, rfl, rfl, hbl, hbt, hcap, hcell⟩ := h.at_ hl
  have hf := h.few
  have HH := Lib.hid hh
  obtain ⟨i, hie⟩ : ∃ i, i = lb rows key := ⟨_, rfl⟩
  have fnd := find_any tb _ _ rows key w h
  rw [hh, ← hie] at fnd
  rw [← hie] at hi hl ⊢
  clear hie hh HH
  go_enter Tryd.func100, Tryd.ntmps100
  go_wp2_with (go_at_call 99; refine fnd.mono ?_; rintro e w1 ⟨rfl, hb1⟩; have ht1 := h.below hb1; have c1 := ht1.cell; obtain ⟨d1, d2, d3⟩ := ht1.get hi)
  go_ret
  exact ⟨rfl, ht1.set_ hi rfl, Kp.setCell (S := fun k => some k = some b) (Kp.of_below hb1) (p := ⟨b, i * 2 + 1, none⟩) rfl _⟩
end Go.Proofs.YtljpjckklkpipaaDoor.Tw
