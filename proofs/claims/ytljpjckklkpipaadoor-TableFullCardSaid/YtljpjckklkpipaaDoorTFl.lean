/- Which keys are there behind a Put (plain). -/
import Derived.Test.YtljpjckklkpipaaDoorTq
namespace Go.Proofs.YtljpjckklkpipaaDoor.Tw
open Go.RowKit Wd Tl Ck Bld Pk

theorem has_mem {rows : List (ByteArray × ByteArray)} {k : ByteArray} : has rows k = true ↔ k ∈ rows.map (·.1) := by
  unfold has
  rw [List.any_eq_true, List.mem_map]
  constructor
  · rintro ⟨x, hx, h⟩
    exact ⟨x, hx, by simpa using h⟩
  · rintro ⟨x, hx, rfl⟩
    exact ⟨x, hx, by simp⟩
theorem keys_put {rows : List (ByteArray × ByteArray)} {key u : ByteArray} (hs : Srt rows) (k : ByteArray) : has (put rows key u) k = true ↔ (has rows k = true ∨ k = key) := by
  by_cases hh : has rows key = true
  · obtain ⟨x, hx⟩ := (has_iff hs).1 hh
    have e : (put rows key u).map (·.1) = rows.map (·.1) := by
      unfold put
      rw [if_pos hh, List.map_set]
      apply List.ext_getElem?
      intro i
      rw [List.getElem?_set]
      split
      · rename_i hi
        subst hi
        split
        · rw [List.getElem?_map, hx]; rfl
        · rename_i h9
          rw [List.getElem?_eq_none (by simpa using h9)]
      · rfl
    rw [has_mem, e, ← has_mem]
    constructor
    · exact .inl
    · rintro (h | rfl)
      · exact h
      · exact hh
  · have e : put rows key u = rows.take (lb rows key) ++ (key, u) :: rows.drop (lb rows key) := by unfold put; rw [if_neg hh]
    rw [has_mem, e, has_mem]
    conv => rhs; rw [← List.take_append_drop (lb rows key) rows]
    simp only [List.map_append, List.map_cons, List.mem_append, List.mem_cons]
    constructor
    · rintro (h | h | h)
      · exact .inl (.inl h)
      · exact .inr h
      · exact .inl (.inr h)
    · rintro ((h | h) | h)
      · exact .inl h
      · exact .inr (.inr h)
      · exact .inr (.inl h)
theorem put_length {rows : List (ByteArray × ByteArray)} {key u : ByteArray} : (put rows key u).length = if has rows key = true then rows.length else rows.length + 1 := by
  unfold put
  split
  · simp
  · have := lb_le rows key
    simp
    omega

/-- TableFull's own look: is the key there -/
def th (l : List ByteArray) (k : ByteArray) : Bool := l.any fun h => decide (h = k)
theorem th_append (l : List ByteArray) (x k : ByteArray) : th (l ++ [x]) k = (th l k || decide (x = k)) := by unfold th; simp
/-- what TableFull keeps beside the table: the keys that are there -/
structure Kept (rows : List (ByteArray × ByteArray)) (have_ : List ByteArray) : Prop where
  mem : ∀ k, has rows k = th have_ k
  len : rows.length = have_.length
theorem Kept.nil : Kept [] [] := ⟨fun k => by simp [has, th], rfl⟩
/-- one round of TableFull's loop -/
theorem full_step {rows rows' : List (ByteArray × ByteArray)} {have_ : List ByteArray} {key v told : ByteArray} {e : Int} (hs : Srt rows) (hk : Kept rows have_) (h : tdo rows 2 key v ⟨#[]⟩ = (rows', told, e)) :
    e = (if chk 2 key v ⟨#[]⟩ = 0 ∧ th have_ key = false ∧ have_.length = 16 then 5 else chk 2 key v ⟨#[]⟩) ∧ Kept rows' (if e = 0 ∧ th have_ key = false then have_ ++ [key] else have_) := by
  have hput : ∀ k, has (put rows key v) k = (has rows k || decide (k = key)) := fun k => by
    rw [Bool.eq_iff_iff, keys_put hs]; simp
  by_cases hc : chk 2 key v ⟨#[]⟩ = 0
  · unfold tdo at h
    rw [if_pos hc] at h
    cases hg : get rows key with
    | none =>
      have hh := get_none hg
      have hn : th have_ key = false := by rw [← hk.mem key, hh]
      rw [hg] at h
      simp only [true_or, if_true] at h
      rw [← hk.len]
      by_cases h16 : rows.length = 16
      · rw [if_pos h16] at h
        simp only [Prod.mk.injEq] at h
        obtain ⟨rfl, _, rfl⟩ := h
        rw [if_pos ⟨hc, hn, h16⟩, if_neg (by omega)]
        exact ⟨rfl, hk⟩
      · rw [if_neg h16] at h
        simp only [Prod.mk.injEq] at h
        obtain ⟨rfl, _, rfl⟩ := h
        rw [if_neg (fun h9 => h16 h9.2.2), if_pos ⟨rfl, hn⟩]
        refine ⟨hc.symm, fun k => ?_, ?_⟩
        · rw [hput, hk.mem k, th_append]
          congr 1
          exact decide_eq_decide.2 ⟨fun h9 => h9.symm, fun h9 => h9.symm⟩
        · rw [put_length, hh, hk.len]; simp
    | some had =>
      obtain ⟨hh, _⟩ := get_some hs hg
      have hn : th have_ key = true := by rw [← hk.mem key, hh]
      rw [hg] at h
      simp at h
      obtain ⟨rfl, _, rfl⟩ := h
      rw [hn, if_neg (by simp), if_neg (by simp)]
      refine ⟨hc.symm, fun k => ?_, ?_⟩
      · rw [hput, hk.mem k]
        by_cases h9 : k = key
        · subst h9; rw [hn]; simp
        · simp [h9]
      · rw [put_length, if_pos hh, hk.len]
  · unfold tdo at h
    rw [if_neg hc] at h
    simp only [Prod.mk.injEq] at h
    obtain ⟨rfl, _, rfl⟩ := h
    rw [if_neg (fun h9 => hc h9.1), if_neg (fun h9 => hc h9.1)]
    exact ⟨rfl, hk⟩
end Go.Proofs.YtljpjckklkpipaaDoor.Tw
