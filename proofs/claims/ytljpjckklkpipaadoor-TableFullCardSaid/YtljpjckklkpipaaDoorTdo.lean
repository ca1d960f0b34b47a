/- Walks of package table: Do, whatever the table and the operation; New and Len. -/
import Derived.Test.YtljpjckklkpipaaDoorTg
namespace Go.Proofs.YtljpjckklkpipaaDoor.Tw
open Go.RowKit Wd Tl Ck
set_option maxRecDepth 100000

/-- a key's value -/
def get (rows : List (ByteArray × ByteArray)) (key : ByteArray) : Option ByteArray := (rows.find? fun r => decide (r.1 = key)).map (·.2)
theorem get_some {rows : List (ByteArray × ByteArray)} {key had : ByteArray} (hs : Srt rows) (h : get rows key = some had) : has rows key = true ∧ rows[lb rows key]? = some (key, had) := by
  unfold get at h
  rw [Option.map_eq_some_iff] at h
  obtain ⟨⟨k', v⟩, hf, rfl⟩ := h
  have hk : k' = key := by simpa using List.find?_some hf
  subst hk
  have hm := List.mem_of_find?_eq_some hf
  have hh : has rows k' = true := by unfold has; rw [List.any_eq_true]; exact ⟨_, hm, by simp⟩
  refine ⟨hh, ?_⟩
  obtain ⟨v', hv'⟩ := (has_iff hs).1 hh
  obtain ⟨t, ht, he⟩ := List.getElem_of_mem hm
  have hl := (List.getElem?_eq_some_iff.1 hv').1
  have h1 : ¬ t < lb rows k' := fun h => by
    have := lb_lt k' rows t (k', v) h (by rw [List.getElem?_eq_getElem ht, he])
    rw [cmp_self] at this; omega
  have h2 : ¬ lb rows k' < t := fun h => by
    have h3 := List.pairwise_iff_getElem.1 hs (lb rows k') t hl ht h
    rw [he, (List.getElem?_eq_some_iff.1 hv').2, cmp_self] at h3; omega
  obtain rfl : t = lb rows k' := by omega
  rw [List.getElem?_eq_getElem ht, he]
theorem get_none {rows : List (ByteArray × ByteArray)} {key : ByteArray} (h : get rows key = none) : has rows key = false := by
  unfold get at h
  rw [Option.map_eq_none_iff, List.find?_eq_none] at h
  unfold has
  rw [List.any_eq_false]
  exact h

/-- what an operation does: the rows, what is told, the error -/
def tdo (rows : List (ByteArray × ByteArray)) (k : Int) (key v old : ByteArray) : List (ByteArray × ByteArray) × ByteArray × Int :=
  if chk k key v old = 0 then
    match get rows key with
    | none => if k = 2 ∨ k = 3 then (if rows.length = 16 then (rows, ⟨#[]⟩, 5) else (put rows key v, (if k = 2 then ⟨#[]⟩ else v), 0)) else (rows, ⟨#[]⟩, 6)
    | some had =>
      if k = 1 then (rows, had, 0) else if k = 2 then (put rows key v, had, 0)
      else if k = 3 then (if 64 < had.size + v.size then (rows, ⟨#[]⟩, 2) else (put rows key (had ++ v), had ++ v, 0))
      else if k = 4 then (rows.take (lb rows key) ++ rows.drop (lb rows key + 1), had, 0)
      else if had = old then (put rows key v, had, 0) else (rows, ⟨#[]⟩, 7)
  else (rows, ⟨#[]⟩, chk k key v old)

theorem chk_ok {k : Int} {key v old : ByteArray} (h : chk k key v old = 0) : 1 ≤ k ∧ k ≤ 5 ∧ v.size ≤ 64 ∧ old.size ≤ 64 ∧ key.size ≤ 16 ∧ key.toList.isEmpty = false := by
  unfold chk at h
  split at h
  · rename_i hk
    split at h
    · omega
    · rename_i h2
      refine ⟨hk.1, hk.2, ?_, ?_, ?_, ?_⟩
      · omega
      · omega
      · omega
      · cases h3 : key.toList.isEmpty
        · rfl
        · exact absurd (.inl h3) h2
  · omega
/-- values are short -/
def Short (rows : List (ByteArray × ByteArray)) : Prop := ∀ r ∈ rows, r.2.size ≤ 64

theorem do_any (tb : Nat) (v0 : Value) (g : Option Nat) (rows : List (ByteArray × ByteArray)) (k : Int) (key v old : ByteArray) (w : World) (h : Tab w tb v0 g rows) (hs : Short rows) :
    Calls Tryd.prog 43 #[.pointer (some ⟨tb, 0, none⟩), .agg #[.int .i64 k, .string key, .string v, .string old]] w fun e w' =>
      e = .returned (.tuple #[.string (tdo rows k key v old).2.1, .int .i64 (tdo rows k key v old).2.2]) ∧ To w tb g (tdo rows k key v old).1 w' := by
  by_cases hc : chk k key v old = 0
  · obtain ⟨hk1, hk2, hv, hold, _, _⟩ := chk_ok hc
    cases hg : get rows key with
    | none =>
      have hh := get_none hg
      obtain ⟨A, c, rfl⟩ := h.form
      by_cases h23 : k = 2 ∨ k = 3
      · by_cases hl : rows.length = 16
        · have e0 : tdo rows k key v old = (rows, ⟨#[]⟩, 5) := by unfold tdo; rw [if_pos hc, hg]; simp only; rw [if_pos h23, if_pos hl]
          rw [e0]
          rcases h23 with rfl | rfl
          · exact do_put_full tb A c g rows key v old w h hc hh hl
          · exact do_app_full tb A c g rows key v old w h hc hh hl
        · have hf := h.few
          have e0 : tdo rows k key v old = (put rows key v, (if k = 2 then ⟨#[]⟩ else v), 0) := by unfold tdo; rw [if_pos hc, hg]; simp only; rw [if_pos h23, if_neg hl]
          rw [e0]
          rcases h23 with rfl | rfl
          · exact do_put_new tb A c g rows key v old w h hc hh (by omega)
          · exact do_app_new tb A c g rows key v old w h hc hh (by omega) hv
      · have e0 : tdo rows k key v old = (rows, ⟨#[]⟩, 6) := by unfold tdo; rw [if_pos hc, hg]; simp only; rw [if_neg h23]
        rw [e0]
        exact do_none tb _ g rows k key v old w h hc hh (by rw [beq_eq_false_iff_ne]; omega) (by rw [beq_eq_false_iff_ne]; omega)
    | some had =>
      obtain ⟨hh, hx⟩ := get_some h.srt hg
      obtain ⟨b, cap, had', rfl, rfl, _⟩ := h.there hh
      have hhad := hs _ (List.mem_of_getElem? hx)
      have hcap : rows.length ≤ cap := by
        obtain ⟨b', cap', _, hv', _, _, hcap, _⟩ := h.at_ (List.getElem?_eq_some_iff.1 hx).1
        injection hv' with _ _ hv'
        omega
      have e0 : tdo rows k key v old = (if k = 1 then (rows, had, 0) else if k = 2 then (put rows key v, had, 0)
          else if k = 3 then (if 64 < had.size + v.size then (rows, ⟨#[]⟩, 2) else (put rows key (had ++ v), had ++ v, 0))
          else if k = 4 then (rows.take (lb rows key) ++ rows.drop (lb rows key + 1), had, 0)
          else if had = old then (put rows key v, had, 0) else (rows, ⟨#[]⟩, 7)) := by unfold tdo; rw [if_pos hc, hg]
      rw [e0]
      have hk : k = 1 ∨ k = 2 ∨ k = 3 ∨ k = 4 ∨ k = 5 := by omega
      rcases hk with rfl | rfl | rfl | rfl | rfl
      · exact do_get tb b cap rows key v old had w h hc hh _ rfl hx
      · exact do_put tb b cap rows key v old had w h hc hh _ rfl hx
      · by_cases hlong : 64 < had.size + v.size
        · rw [if_neg (by omega), if_neg (by omega), if_pos rfl, if_pos hlong]
          exact do_app_long tb b cap rows key v old had w h hc hh _ rfl hx hlong hhad hv
        · rw [if_neg (by omega), if_neg (by omega), if_pos rfl, if_neg hlong]
          exact do_app tb b cap rows key v old had w h hc hh _ rfl hx (by omega)
      · have hil := (List.getElem?_eq_some_iff.1 hx).1
        by_cases hm : lb rows key + 1 < rows.length
        · exact del_mid tb b cap rows key v old had w h hc hh _ rfl hx hcap hm
        · by_cases hcc : cap = lb rows key + 1
          · exact del_end1 tb b cap rows key v old had w h hc hh _ rfl hx hcap (by omega) hcc
          · exact del_end2 tb b cap rows key v old had w h hc hh _ rfl hx hcap (by omega) (by omega)
      · rw [if_neg (by omega), if_neg (by omega), if_neg (by omega), if_neg (by omega)]
        by_cases ho : had = old
        · rw [if_pos ho]
          exact do_swap tb b cap rows key v old had w h hc hh _ rfl hx ho
        · rw [if_neg ho]
          exact do_swap_no tb b cap rows key v old had w h hc hh _ rfl hx ho
  · have e0 : tdo rows k key v old = (rows, ⟨#[]⟩, chk k key v old) := by unfold tdo; rw [if_neg hc]
    rw [e0]
    exact do_bad tb v0 g rows k key v old w h _ rfl hc

theorem new_any (w : World) :
    Calls Tryd.prog 41 #[] w fun e w' => e = .returned (.pointer (some ⟨w.heap.size, 0, none⟩)) ∧ Tab w' w.heap.size (.slice none 0 0) none [] ∧ Below w.heap.size w w' := by
  go_enter Tryd.func41, Tryd.ntmps41
  go_wp2
  go_ret
  refine ⟨rfl, ⟨heap_alloc_new _ _, by simp, List.Pairwise.nil, .inl ⟨rfl, rfl, rfl⟩⟩, (Below.refl _ w).alloc (Nat.le_refl _) _⟩

theorem len_any (tb : Nat) (v0 : Value) (g : Option Nat) (rows : List (ByteArray × ByteArray)) (w : World) (h : Tab w tb v0 g rows) :
    Calls Tryd.prog 51 #[.pointer (some ⟨tb, 0, none⟩)] w fun e w' => e = .returned (.int .i64 rows.length) ∧ w = w' := by
  obtain ⟨A, c, rfl⟩ := h.form
  have hc := h.cell
  go_enter Tryd.func51, Tryd.ntmps51
  go_wp2
  go_ret
  exact ⟨rfl, rfl⟩
end Go.Proofs.YtljpjckklkpipaaDoor.Tw
