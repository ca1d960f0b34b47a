/- The walk of wapentakelaw13.TableFull. -/
import Derived.Test.YtljpjckklkpipaaDoorTFl
import Derived.Test.YtljpjckklkpipaaDoorTR
namespace Go.Proofs.YtljpjckklkpipaaDoor.Tw
open Go.RowKit Wd Tl Ck Bld Pk Sl
set_option maxRecDepth 100000

def encS (s : ByteArray) : List Value := [.string s]
theorem own_kp {S : Nat → Prop} {w w' : World} {base : Nat} {e : TypeId} {size n : Nat} {v : Value} {xs : List Value} (h : w.ownsRow base e size v n xs) (hk : Kp S w w') (hn : ∀ b, v.ownBlock = some b → ¬ S b) : w'.ownsRow base e size v n xs := by
  have hlt := h.lt
  refine ⟨h.1, ?_⟩
  rcases h.2 with h0 | ⟨b, cap, cur, rfl, hb, hg, h3⟩
  · exact .inl h0
  · exact .inr ⟨b, cap, cur, rfl, hb, (hk.block b (hlt b rfl).2 (hn b rfl)).trans hg, h3⟩
/-- a table and a row of strings lie apart -/
theorem apart {w : World} {tb : Nat} {v vh : Value} {g : Option Nat} {rows : List (ByteArray × ByteArray)} {base n : Nat} {xs : List Value} (h : Tab w tb v g rows) (ho : w.ownsRow base 9 1 vh n xs) {b : Nat} (hb : vh.ownBlock = some b) : ¬ (b = tb ∨ some b = g) := by
  rcases ho.2 with ⟨rfl, _⟩ | ⟨b', cap, cur, rfl, _, hg, _⟩
  · simp [Value.ownBlock] at hb
  · have e : b' = b := by simpa [Value.ownBlock] using hb
    subst e
    rintro (rfl | e)
    · have h9 := h.blk.symm.trans hg
      injection h9 with h9
      injection h9 with _ h9 _
      exact absurd h9 (by decide)
    · rcases h.row with ⟨h0, _⟩ | ⟨b2, _, _, h0, _, h2, _⟩
      · rw [h0] at e; cases e
      · rw [h0] at e
        injection e with e
        subst e
        have h9 := h2.symm.trans hg
        injection h9 with h9
        injection h9 with _ h9 _
        exact absurd h9 (by decide)
/-- the table and the keys beside it -/
def FS (W : World) (tb : Nat) (rows : List (ByteArray × ByteArray)) (l : List ByteArray) (vh : Value) (w : World) : Prop :=
  Mine W tb rows w ∧ w.ownsRow W.heap.size 9 1 vh l.length (l.map Value.string)
theorem FS.below {W w w' : World} {tb : Nat} {rows : List (ByteArray × ByteArray)} {l : List ByteArray} {vh : Value} (h : FS W tb rows l vh w) (hb : Below w.heap.size w w') : FS W tb rows l vh w' :=
  ⟨h.1.below hb, own_kp (S := fun _ => False) h.2 (Kp.of_below hb) (fun _ _ h => h)⟩
theorem FS.do_ {W : World} {tb : Nat} {rows rows' : List (ByteArray × ByteArray)} {l : List ByteArray} {vh : Value} {k : Int} {key v old told : ByteArray} {e0 : Int} {w : World} (ht : tdo rows k key v old = (rows', told, e0)) (h : FS W tb rows l vh w) (hs : Short rows) :
    Calls Tryd.prog 43 #[.pointer (some ⟨tb, 0, none⟩), .agg #[.int .i64 k, .string key, .string v, .string old]] w fun e w' =>
      e = .returned (.tuple #[.string told, .int .i64 e0]) ∧ FS W tb rows' l vh w' := by
  obtain ⟨⟨v0, g, h1, h2, h3, h4⟩, h5⟩ := h
  refine (do_of ht tb v0 g w h1 hs).mono fun e w' ⟨he, hto⟩ => ⟨he, Mine.to h2 h3 h4 hto, ?_⟩
  obtain ⟨_, _, _, _, hk⟩ := hto
  exact own_kp h5 hk (fun b hb => apart h1 h5 hb)
theorem FS.len {W : World} {tb : Nat} {rows : List (ByteArray × ByteArray)} {l : List ByteArray} {vh : Value} {w : World} (h : FS W tb rows l vh w) :
    Calls Tryd.prog 51 #[.pointer (some ⟨tb, 0, none⟩)] w fun e w' => e = .returned (.int .i64 rows.length) ∧ w = w' := by
  obtain ⟨⟨v0, g, h1, _⟩, _⟩ := h
  exact len_any tb v0 g rows w h1
theorem FS.app {W w w' : World} {tb : Nat} {rows : List (ByteArray × ByteArray)} {l : List ByteArray} {vh v' : Value} {key : ByteArray} {n : Nat} {xs : List Value} (h : FS W tb rows l vh w) (hw : w'.ownsRow W.heap.size 9 1 v' n xs) (hn : n = (l ++ [key]).length) (hx : xs = (l ++ [key]).map Value.string) (hg : w.grownBy w' vh.ownBlock) : FS W tb rows (l ++ [key]) v' w' := by
  subst hn hx
  obtain ⟨⟨v0, g, h1, h2, h3, h4⟩, h5⟩ := h
  refine ⟨⟨v0, g, h1.keep fun k hk hs => hg.block k hk (fun e => apart h1 h5 e.symm hs), h2, h3, below_grown h4 h5 hg (Nat.le_refl _) h4.size⟩, hw⟩
theorem FS.bel {W w : World} {tb : Nat} {rows : List (ByteArray × ByteArray)} {l : List ByteArray} {vh : Value} (h : FS W tb rows l vh w) : Below W.heap.size W w := h.1.bel
theorem FS.items {W w : World} {tb : Nat} {rows : List (ByteArray × ByteArray)} {l : List ByteArray} {vh : Value} (h : FS W tb rows l vh w) :
    ∃ A c, vh = .slice A l.length c ∧ (0 < l.length → ∃ b, A = some ⟨b, 0, none⟩ ∧ ∀ k x, l[k]? = some x → w.cell? ⟨b, k, none⟩ = some (.string x)) := by
  rcases h.2.2 with ⟨rfl, hn⟩ | ⟨b, cap, cur, rfl, _, hg, hle, _, hs, ht⟩
  · rw [hn]; exact ⟨none, 0, rfl, fun h => by omega⟩
  · refine ⟨_, cap, rfl, fun _ => ⟨b, rfl, fun k x hk => ?_⟩⟩
    have hkl := (List.getElem?_eq_some_iff.1 hk).1
    rw [cell_of_row w b k _ _ _ hg]
    have h9 : (cur.toList.take (l.length * 1))[k]? = some (Value.string x) := by rw [ht, List.getElem?_map, hk]; rfl
    rw [List.getElem?_take, if_pos (by omega)] at h9
    simpa using h9
theorem FS.srt {W w : World} {tb : Nat} {rows : List (ByteArray × ByteArray)} {l : List ByteArray} {vh : Value} (h : FS W tb rows l vh w) : Srt rows := h.1.srt
def FRel (n : Nat) (W : World) (tb : Nat) (vh i : Value) (wr : World) : Prop := ∃ (k : Nat) (rows : List (ByteArray × ByteArray)) (l : List ByteArray), k ≤ n ∧ i = .int .i64 k ∧ Kept rows l ∧ Fine rows ∧ FS W tb rows l vh wr
def IRel (l : List ByteArray) (key : ByteArray) (w : World) (t i : Value) (wr : World) : Prop := ∃ k : Nat, k ≤ l.length ∧ i = .int .i64 k ∧ t = .bool (th (l.take k) key) ∧ wr = w
theorem th_succ (l : List ByteArray) (key : ByteArray) (k : Nat) (x : ByteArray) (hk : l[k]? = some x) : th (l.take (k + 1)) key = (th (l.take k) key || decide (x = key)) := by
  rw [List.take_add_one, hk]
  exact th_append _ _ _
theorem FS.few {W w : World} {tb : Nat} {rows : List (ByteArray × ByteArray)} {l : List ByteArray} {vh : Value} (h : FS W tb rows l vh w) : rows.length ≤ 16 := by
  obtain ⟨⟨_, _, h1, _⟩, _⟩ := h
  exact h1.few

theorem slot_eq {k : IntKind} {a b : Int} (h : a = b) : Value.int k a = .int k b := by rw [h]
set_option maxHeartbeats 4000000 in
theorem full_main (v0 : Value) (l : List ByteArray) (v : ByteArray) (w : World) (h : SlC encS 1 w v0 l) (hG : GPow w) (hl : l.length ≤ 200) :
    Calls Tryd.prog 12 #[v0, .string v] w fun e w' => e = .returned (.bool true) ∧ Below w.heap.size w w' := by
  obtain ⟨i0, hi0, hz0, hz1, hz2⟩ := info_parts info9
  obtain ⟨A, c, rfl, hl2, hcl⟩ := h
  go_enter Tryd.func12, Tryd.ntmps12
  go_wp2_with fail
  refine (new_mine w w (Below.refl _ _)).mono ?_
  rintro e w1 ⟨rfl, h1⟩
  generalize w.heap.size = tb at h1 ⊢
  have HC := Lib.hid hcl
  clear hcl
  go_wp2_with fail
  go_loopw [6, 30] (fun vh i wr => FRel l.length w tb vh i wr) (fun _ i _ => l.length - (intOf i).toNat)
  case atStart => exact ⟨0, [], [], by omega, rfl, Kept.nil, (fun r hr => by simp at hr), h1, World.ownsRow_nil _ _ _ _⟩
  case round =>
    obtain ⟨k, rows, have_, hk, rfl, hK, hF, hS⟩ := hrel
    clear h1
    by_cases hlt : k < l.length
    · obtain ⟨b, off, rfl, hbl, hcell⟩ := HC.out (by omega)
      obtain ⟨key, hkey⟩ : ∃ x, l[k] = x := ⟨_, rfl⟩
      have hx : l[k]? = some key := by rw [← hkey]; exact List.getElem?_eq_getElem hlt
      have d0 : wr.cell? ⟨b, off + k, none⟩ = some (.string key) := by
        have h9 := (hS.bel.cell (p := ⟨b, off + k * 1 + 0, none⟩) hbl).trans (hcell k key hx 0 _ rfl)
        simpa using h9
      obtain ⟨A2, c2, rfl, hcell2⟩ := hS.items
      have hfew := hS.few
      have hsrt := hS.srt
      have hlen := hK.len
      have hl16 : have_.length ≤ 16 := by omega
      have HI := Lib.hid hcell2
      have HS := Lib.hid hS
      have HKK := Lib.hid hK
      have HF := Lib.hid hF
      have HSR := Lib.hid hsrt
      have HLEN := Lib.hid hlen
      clear hcell hkey hx hcell2 hS hK hF hsrt hlen
      obtain ⟨wo, rfl⟩ : ∃ wo : World, wo = wr := ⟨_, rfl⟩
      go_wp2_with fail
      go_loopw [9, 36] (fun t i wr => IRel have_ key wo t i wr) (fun _ i _ => have_.length - (intOf i).toNat)
      case atStart => exact ⟨0, by omega, rfl, rfl, rfl⟩
      case round =>
        obtain ⟨j, hj, rfl, rfl, rfl⟩ := hrel
        by_cases hlt2 : j < have_.length
        · obtain ⟨b2, rfl, hc2⟩ := HI.out (by omega)
          obtain ⟨x, hxe⟩ : ∃ x, have_[j] = x := ⟨_, rfl⟩
          have hx2 : have_[j]? = some x := by rw [← hxe]; exact List.getElem?_eq_getElem hlt2
          have d2 := hc2 j x hx2
          have hsu := th_succ have_ key j x hx2
          have HSU := Lib.hid hsu
          clear hc2 hxe hx2 hsu
          have hcs : th (have_.take j) key = true ∨ (th (have_.take j) key = false ∧ x = key) ∨ (th (have_.take j) key = false ∧ x ≠ key) := by
            cases th (have_.take j) key
            · by_cases h9 : x = key
              · exact .inr (.inl ⟨rfl, h9⟩)
              · exact .inr (.inr ⟨rfl, h9⟩)
            · exact .inl rfl
          generalize th (have_.take j) key = tj at *
          have HI2 := HI
          clear HI
          rcases hcs with rfl | ⟨rfl, rfl⟩ | ⟨rfl, hne⟩
          · go_wp2_with fail
            go_roundw
            case rel => exact ⟨j + 1, by omega, by go_num, by rw [HSU.out]; rfl, rfl⟩
            case measure => simp [intOf]; omega
          · go_wp2_with fail
            go_roundw
            case rel => exact ⟨j + 1, by omega, by go_num, by rw [HSU.out]; simp, rfl⟩
            case measure => simp [intOf]; omega
          · have hne2 : (x.toList == key.toList) = false := by
              rw [beq_eq_false_iff_ne]
              intro e9
              apply hne
              rw [Lib.toList_data, Lib.toList_data] at e9
              cases x; cases key
              simp at e9
              rw [e9]
            go_wp2_with fail
            go_roundw
            case rel => exact ⟨j + 1, by omega, by go_num, by rw [HSU.out]; simp [hne], rfl⟩
            case measure => simp [intOf]; omega
        · obtain rfl : j = have_.length := by omega
          rw [List.take_length]
          obtain ⟨⟨rows', told, e0⟩, hT⟩ : ∃ t, tdo rows 2 key v ⟨#[]⟩ = t := ⟨_, rfl⟩
          obtain ⟨he0, hK2⟩ := full_step HSR.out HKK.out hT
          have hF2 : Fine rows' := by have h9 := tdo_fine (k := 2) (key := key) (v := v) (old := ⟨#[]⟩) HF.out; rw [hT] at h9; exact h9
          have hdo := HS.out.do_ hT HF.out.short
          have hck := check_any 2 key v ⟨#[]⟩
          obtain ⟨cq, hcq⟩ : ∃ c, chk 2 key v ⟨#[]⟩ = c := ⟨_, rfl⟩
          rw [hcq] at he0 hck
          have HDO := Lib.hid hdo
          have HCK := Lib.hid hck
          have HF2 := Lib.hid hF2
          have hcase : (cq ≠ 0 ∧ e0 = cq ∧ Kept rows' have_) ∨ (cq = 0 ∧ th have_ key = true ∧ e0 = 0 ∧ Kept rows' have_) ∨ (cq = 0 ∧ th have_ key = false ∧ have_.length = 16 ∧ e0 = 5 ∧ Kept rows' have_) ∨ (cq = 0 ∧ th have_ key = false ∧ have_.length ≠ 16 ∧ e0 = 0 ∧ Kept rows' (have_ ++ [key])) := by
            by_cases h0 : cq = 0
            · cases ht : th have_ key with
              | true =>
                rw [ht, if_neg (by simp)] at he0
                rw [ht, if_neg (by simp)] at hK2
                exact .inr (.inl ⟨h0, rfl, by omega, hK2⟩)
              | false =>
                by_cases h16 : have_.length = 16
                · rw [ht, if_pos ⟨h0, rfl, h16⟩] at he0
                  rw [if_neg (by omega)] at hK2
                  exact .inr (.inr (.inl ⟨h0, rfl, h16, he0, hK2⟩))
                · rw [ht, if_neg (fun h9 => h16 h9.2.2)] at he0
                  rw [ht, if_pos ⟨by omega, rfl⟩] at hK2
                  exact .inr (.inr (.inr ⟨h0, rfl, h16, by omega, hK2⟩))
            · rw [if_neg (fun h9 => h0 h9.1)] at he0
              rw [if_neg (fun h9 => by omega)] at hK2
              exact .inl ⟨h0, he0, hK2⟩
          clear hT he0 hK2 hF2 hdo hck hcq HS HKK HF HSR HI
          generalize th have_ key = tj at *
          rcases hcase with ⟨h0, rfl, hK2⟩ | ⟨rfl, rfl, rfl, hK2⟩ | ⟨rfl, rfl, h16, rfl, hK2⟩ | ⟨rfl, rfl, h16, rfl, hK2⟩
          · have h01 : (e0 == 0) = false := by rw [beq_eq_false_iff_ne]; exact h0
            have HK2 := Lib.hid hK2
            clear hK2 h0
            go_wp2_with fail
            (with_reducible refine HDO.out.mono ?_)
            rintro e w2 ⟨rfl, hS2⟩
            go_wp2_with fail
            (with_reducible refine (HCK.out _).mono ?_)
            rintro e w3 ⟨rfl, hb3⟩
            have hS3 := hS2.below hb3
            have hln : Calls Tryd.prog 51 #[.pointer (some ⟨tb, 0, none⟩)] w3 fun e w' => e = .returned (.int .i64 have_.length) ∧ w3 = w' := by rw [← HK2.out.len]; exact hS3.len
            have HLN := Lib.hid hln
            have HS3 := Lib.hid hS3
            clear hln hS3 hS2 hb3
            go_wp2_with fail
            (with_reducible refine HLN.out.mono ?_)
            rintro e w4 ⟨rfl, rfl⟩
            go_wp2_with fail
            go_roundw
            case rel => exact ⟨k + 1, rows', have_, by omega, by go_num, HK2.out, HF2.out, HS3.out⟩
            case measure => simp [intOf]; omega
          · have HK2 := Lib.hid hK2
            clear hK2
            go_wp2_with fail
            (with_reducible refine HDO.out.mono ?_)
            rintro e w2 ⟨rfl, hS2⟩
            go_wp2_with fail
            (with_reducible refine (HCK.out _).mono ?_)
            rintro e w3 ⟨rfl, hb3⟩
            have hS3 := hS2.below hb3
            have hln : Calls Tryd.prog 51 #[.pointer (some ⟨tb, 0, none⟩)] w3 fun e w' => e = .returned (.int .i64 have_.length) ∧ w3 = w' := by rw [← HK2.out.len]; exact hS3.len
            have HLN := Lib.hid hln
            have HS3 := Lib.hid hS3
            clear hln hS3 hS2 hb3
            go_wp2_with fail
            (with_reducible refine HLN.out.mono ?_)
            rintro e w4 ⟨rfl, rfl⟩
            go_wp2_with fail
            go_roundw
            case rel => exact ⟨k + 1, rows', have_, by omega, by go_num, HK2.out, HF2.out, HS3.out⟩
            case measure => simp [intOf]; omega
          · have HK2 := Lib.hid hK2
            have h17 : ((have_.length : Int) == 16) = true := by rw [beq_iff_eq]; omega
            clear hK2 h16
            go_wp2_with fail
            (with_reducible refine HDO.out.mono ?_)
            rintro e w2 ⟨rfl, hS2⟩
            go_wp2_with fail
            (with_reducible refine (HCK.out _).mono ?_)
            rintro e w3 ⟨rfl, hb3⟩
            have hS3 := hS2.below hb3
            have hln : Calls Tryd.prog 51 #[.pointer (some ⟨tb, 0, none⟩)] w3 fun e w' => e = .returned (.int .i64 have_.length) ∧ w3 = w' := by rw [← HK2.out.len]; exact hS3.len
            have HLN := Lib.hid hln
            have HS3 := Lib.hid hS3
            clear hln hS3 hS2 hb3
            go_wp2_with fail
            (with_reducible refine HLN.out.mono ?_)
            rintro e w4 ⟨rfl, rfl⟩
            go_wp2_with fail
            go_roundw
            case rel => exact ⟨k + 1, rows', have_, by omega, by go_num, HK2.out, HF2.out, HS3.out⟩
            case measure => simp [intOf]; omega
          · have HK2 := Lib.hid hK2
            have h17 : ((have_.length : Int) == 16) = false := by rw [beq_eq_false_iff_ne]; omega
            clear hK2 h16
            go_wp2_with fail
            (with_reducible refine HDO.out.mono ?_)
            rintro e w2 ⟨rfl, hS2⟩
            go_wp2_with fail
            (with_reducible refine (HCK.out _).mono ?_)
            rintro e w3 ⟨rfl, hb3⟩
            have hS3 := hS2.below hb3
            have hown := hS3.2
            have hsz3 := hS3.bel.size
            have HS3 := Lib.hid hS3
            have HOW := Lib.hid hown
            clear hS3 hS2 hb3 hown
            go_wp2_with (at_builtin; refine wpList_append_own _ rfl _ _ 93 rfl w.heap.size 9 i0 _ 1 16 Tryd.underlying93 hi0 hz0 hz1 hz2 rfl (by decide) _ _ _ rfl (HOW.out.alloc _) ⟨w3.heap.size, 0, none⟩ 1 1 [.string key] rfl rfl ?c1 ?c2 ?c3 ?c4 ?c5 ?_)
            case c1 => exact cell_one_new _ _ _
            case c2 => intro u hu; simp at hu; subst hu; rfl
            case c3 => unfold maxLen; omega
            case c4 => omega
            case c5 => simp; omega
            intro v' w4 hown4 hg4 _
            have hS4 : FS w tb rows' (have_ ++ [key]) v' w4 := FS.app (HS3.out.below ((Below.refl _ w3).alloc (Nat.le_refl _) _)) hown4 (by simp) (by simp) hg4
            obtain ⟨A4, c4, rfl, _⟩ := hS4.items
            have hlk : (have_ ++ [key]).length = have_.length + 1 := by simp
            have hln : Calls Tryd.prog 51 #[.pointer (some ⟨tb, 0, none⟩)] w4 fun e w' => e = .returned (.int .i64 ((have_ ++ [key]).length : Nat)) ∧ w4 = w' := by rw [← HK2.out.len]; exact hS4.len
            have HLN := Lib.hid hln
            have HS4 := Lib.hid hS4
            clear hln hS4 hown4 hg4
            go_wp2_with fail
            (with_reducible refine HLN.out.mono ?_)
            rintro e w5 ⟨rfl, rfl⟩
            go_wp2_with fail
            go_roundw
            case rel => exact ⟨k + 1, rows', have_ ++ [key], by omega, by go_num, HK2.out, HF2.out, by have h9 := HS4.out; rw [hlk] at h9; exact h9⟩
            case measure => simp [intOf]; omega
    · obtain rfl : k = l.length := by omega
      go_wp2_with fail
      refine (four_any _ (hG.below hS.bel hG.lt)).mono ?_
      rintro e w6 ⟨rfl, hb6⟩
      go_wp2_with fail
      go_ret
      exact ⟨rfl, hS.bel.trans (hb6.mono hS.bel.size)⟩
theorem full_long (v0 : Value) (l : List ByteArray) (v : ByteArray) (w : World) (h : SlC encS 1 w v0 l) (hG : GPow w) (hl : 200 < l.length) :
    Calls Tryd.prog 12 #[v0, .string v] w fun e w' => e = .returned (.bool true) ∧ Below w.heap.size w w' := by
  obtain ⟨A, c, rfl, hl2, _⟩ := h
  go_enter Tryd.func12, Tryd.ntmps12
  go_wp2_with fail
  refine (new_mine w w (Below.refl _ _)).mono ?_
  rintro e w1 ⟨rfl, h1⟩
  obtain ⟨_, _, _, _, _, hB1⟩ := h1
  go_wp2_with (go_at_call 42; refine (four_any _ (hG.below hB1 hG.lt)).mono ?_; rintro e w2 ⟨rfl, hb2⟩)
  go_ret
  exact ⟨rfl, hB1.trans (hb2.mono hB1.size)⟩
theorem full_any (v0 : Value) (l : List ByteArray) (v : ByteArray) (w : World) (h : SlC encS 1 w v0 l) (hG : GPow w) :
    Calls Tryd.prog 12 #[v0, .string v] w fun e w' => e = .returned (.bool true) ∧ Below w.heap.size w w' := by
  by_cases hl : l.length ≤ 200
  · exact full_main v0 l v w h hG hl
  · exact full_long v0 l v w h hG (by omega)
end Go.Proofs.YtljpjckklkpipaaDoor.Tw
