/- usherref9.Tokens, Has; list.Has' kin. -/
import Derived.Test.YtfpojnijjpojlaaGreatDoorTok
import Derived.Test.YtfpojnijjpojlaaGreatDoorTRef
namespace Go.Proofs.YtfpojnijjpojlaaGreatDoor
open Go.RowKit
set_option maxRecDepth 100000
set_option maxHeartbeats 2000000

/-- The pieces from f on. -/
def tailC (c : UInt8) (l : Bs) (f : Nat) : List Bs := if f ≤ l.length then splitL c (l.drop f) else []
theorem tailC_step (x : UInt8) (l : Bs) (f i : Nat) (hf : f ≤ i) (hi : i ≤ l.length) (hn : ∀ b ∈ (l.drop f).take (i - f), b ≠ x) (hc : i = l.length ∨ l[i]? = some x) : tailC x l f = (l.drop f).take (i - f) :: tailC x l (i + 1) := by
  rw [tailC, if_pos (by omega)]
  rcases hc with h | h
  · rw [tailC, if_neg (by omega)]
    have : (l.drop f).take (i - f) = l.drop f := List.take_of_length_le (by rw [List.length_drop]; omega)
    rw [this] at hn ⊢
    exact splitL_free x _ hn
  · have hlt : i < l.length := by
      rcases Nat.lt_or_ge i l.length with h1 | h1
      · exact h1
      · rw [List.getElem?_eq_none h1] at h; cases h
    rw [tailC, if_pos (by omega)]
    have e : l.drop f = (l.drop f).take (i - f) ++ x :: l.drop (i + 1) := by
      have h1 := List.take_append_drop (i - f) (l.drop f)
      rw [List.drop_drop, show f + (i - f) = i by omega, List.drop_eq_getElem_cons hlt] at h1
      rw [List.getElem?_eq_getElem hlt] at h
      rw [Option.some.inj h] at h1
      exact h1.symm
    generalize (l.drop f).take (i - f) = t at e hn
    rw [e]
    exact splitL_append x t _ hn
theorem noC_step (x : UInt8) (l : Bs) (f i : Nat) (c : UInt8) (hf : f ≤ i) (h : l[i]? = some c) (hc : c ≠ x) (hn : ∀ b ∈ (l.drop f).take (i - f), b ≠ x) : ∀ b ∈ (l.drop f).take (i + 1 - f), b ≠ x := by
  intro b hb
  rw [show i + 1 - f = (i - f) + 1 by omega, List.take_add_one, List.getElem?_drop, show f + (i - f) = i by omega, h] at hb
  rcases List.mem_append.1 hb with hb | hb
  · exact hn b hb
  · have : b = c := by simpa using hb
    exact this ▸ hc
theorem tailC_zero (x : UInt8) (l : Bs) : tailC x l 0 = splitL x l := by simp [tailC]
theorem tailC_end (x : UInt8) (l : Bs) : tailC x l (l.length + 1) = [] := by rw [tailC, if_neg (by omega)]
theorem pieceC (x : UInt8) (S : ByteArray) (l : Bs) (hS : S.data.toList = l ++ [x]) (f i : Nat) (hi : i ≤ l.length) : S.extract f i = ⟨((l.drop f).take (i - f)).toArray⟩ := by
  apply str_ext
  rw [ext_data, hS]
  show _ = (l.drop f).take (i - f)
  rcases Nat.le_total f l.length with h | h
  · rw [List.drop_append_of_le_length h, List.take_append_of_le_length (by rw [List.length_drop]; omega)]
  · rw [show i - f = 0 by omega]; simp
theorem toksA_some (vs : List Bs) (P : List Bs) (st : Option (List Bs)) (p : Bs) : toksA ((p :: P).foldl tokF st) vs = toksA (P.foldl tokF (tokF st p)) vs := rfl
theorem toksA_bad (vs P : List Bs) : toksA (P.foldl tokF none) vs = none := by rw [tokF_none, toksA_none]
theorem ref_Trim' (l : Bs) (w : World) (hs : l.length ≤ maxLen) :
    Calls Tryz.prog 78 #[sv l] w fun e w' => e = .returned (sv (trimL l)) ∧ w = w' := by
  refine (ref_Trim ⟨l.toArray⟩ w hs).mono ?_
  rintro e w' ⟨t, rfl, ht, rfl⟩
  refine ⟨?_, rfl⟩
  rw [show t = ⟨(trimL l).toArray⟩ from str_ext ht]

set_option maxHeartbeats 4000000 in
theorem ref9_Tokens (A : Option Addr) (c B : Nat) (vs : List Bs) (w : World) (hA : Rd w B 1 A vs.length (vs.map tv)) (hB : B ≤ w.heap.size) (hn : vs.length ≤ 1000) (hsz : TxSz vs) :
    Calls Tryz.prog 50 #[.slice A vs.length c] w (TokPost w (toksL vs)) := by
  go_enter Tryz.func50, Tryz.ntmps50
  go_wp2
  go_loopw [4, 5] (fun v i wr => ∃ (k : Nat) (l : List Bs), k ≤ vs.length ∧ i = .int .i64 k ∧ OS wr w.heap.size v l ∧ l.length ≤ k * 1000001 ∧ Hid (toksL vs = toksA (some l) (vs.drop k)) ∧ Below w.heap.size w wr) (fun _ i _ => vs.length - (intOf i).toNat)
  case atStart => exact ⟨0, [], Nat.zero_le _, rfl, OS.nil _ _, Nat.le_refl _, rfl, Below.refl _ _⟩
  case round =>
    obtain ⟨k, l, hk, rfl, ho, hl, H, L⟩ := hrel
    have hS := L.size
    by_cases hlt : k < vs.length
    · obtain ⟨t, ht, hd⟩ := drop_tx hlt
      have hts := hsz t (List.mem_of_getElem? ht)
      have hA1 := hA.belowW hB L
      obtain ⟨b, o, rfl, hbB, x0⟩ := hA1.tx k t ht
      have H2 := Lib.hid (toks_at vs k _ t hd H.out)
      obtain ⟨S, hSS⟩ : ∃ S : ByteArray, S = (⟨t.toArray⟩ : ByteArray) ++ ⟨#[44]⟩ := ⟨_, rfl⟩
      have hSl : S.data.toList = t ++ [44] := by rw [hSS, app_data]
      have hSz : S.size = t.length + 1 := by rw [← len_data, hSl, List.length_append]; rfl
      have HSl := Lib.hid hSl
      have hSe := hSS.symm
      clear ht hd H hSS hSl
      go_wp2
      go_loopw [4, 7, 8] (fun v fr i wi => ∃ (f j : Nat) (lj : List Bs), f ≤ j ∧ j ≤ t.length + 1 ∧ fr = .int .i64 f ∧ i = .int .i64 j ∧ OS wi w.heap.size v lj ∧ lj.length ≤ k * 1000001 + f ∧ (j ≤ t.length ∨ f = j) ∧ Hid (∀ b ∈ (t.drop f).take (j - f), b ≠ 44) ∧ Hid (toksL vs = toksA ((tailC 44 t f).foldl tokF (some lj)) (vs.drop (k + 1))) ∧ Below w.heap.size w wi) (fun _ _ i _ => t.length + 1 - (intOf i).toNat)
      case atStart =>
        refine ⟨0, 0, l, Nat.le_refl _, Nat.zero_le _, rfl, rfl, ho, Nat.le_trans hl (Nat.le_add_right _ _), .inl (Nat.zero_le _), ?_, ?_, L⟩
        · intro b hb; simp at hb
        · rw [tailC_zero]; exact H2
      case round =>
        obtain ⟨f, j, lj, hfj, hj, rfl, rfl, hoj, hlj, hfl, HN, HF, LJ⟩ := hrel
        have hSJ := LJ.size
        have hSb := PlainAid.get_bt S
        by_cases hjt : j < t.length + 1
        · obtain ⟨x, hx, hxt⟩ := drop_bt S j (by omega)
          have hx8 := u8lt x
          have hfl2 : f ≤ t.length := by omega
          by_cases h44 : x = 44
          · subst h44
            have hq2 : PlainAid.bt S j = 44 := hxt
            have hk44 : j = t.length ∨ t[j]? = some 44 := by
              rcases (by omega : j = t.length ∨ j < t.length) with h | h
              · exact .inl h
              · rw [HSl.out, List.drop_append_of_le_length (by omega), List.drop_eq_getElem_cons h] at hx
                exact .inr (by rw [List.getElem?_eq_getElem h]; exact congrArg some (List.cons.inj hx).1)
            obtain ⟨p, hp⟩ : ∃ p, p = (t.drop f).take (j - f) := ⟨_, rfl⟩
            have hpe : S.extract f j = ⟨p.toArray⟩ := by rw [pieceC 44 S t HSl.out f j (by omega), hp]
            have hplen : p.length ≤ t.length := by rw [hp]; exact Nat.le_trans (List.length_take_le _ _) (by omega)
            have hT := tailC_step 44 t f j hfj (by omega) HN.out hk44
            rw [← hp] at hT
            have HF' := Lib.hid (show toksL vs = toksA ((tailC 44 t (j + 1)).foldl tokF (tokF (some lj) p)) (vs.drop (k + 1)) by rw [HF.out, hT, toksA_some])
            have HN' : Hid (∀ b ∈ (t.drop (j + 1)).take (j + 1 - (j + 1)), b ≠ 44) := by intro b hb; simp at hb
            have htr := trimL_len p
            clear hx hxt hk44 hp hT HN HF
            by_cases hE : trimL p = []
            · have HR : Hid (toksL vs = toksA ((tailC 44 t (j + 1)).foldl tokF (some lj)) (vs.drop (k + 1))) := by rw [HF'.out, tokF_skip _ _ hE]; exact Lib.hid rfl
              have hEb : (trimL p).isEmpty = true := by rw [hE]; rfl
              clear hE HF'
              go_wp2_with fail
              refine (ref_Trim' p wr (fsz_max (by omega))).mono ?_
              rintro e w1 ⟨rfl, rfl⟩
              go_wp2
              go_roundw
              case rel => exact ⟨j + 1, j + 1, lj, by omega, by omega, by go_num, by go_num, hoj, by omega, .inr rfl, HN', HR, LJ⟩
              case measure => simp [intOf]; omega
            · have hEb : (trimL p).isEmpty = false := by rw [List.isEmpty_eq_false_iff]; exact hE
              have hT := fun w => ref_IsToken ⟨(trimL p).toArray⟩ w (fsz_max (Nat.le_trans htr (Nat.le_trans hplen hts)))
              rw [show (⟨(trimL p).toArray⟩ : ByteArray).data.toList = trimL p from rfl, show (allT (trimL p) && decide (0 < (trimL p).length)) = tkL (trimL p) from rfl] at hT
              cases hK : tkL (trimL p)
              · have HR := Lib.hid (show toksL vs = none by rw [HF'.out, tokF_bad _ _ hE hK, toksA_bad])
                rw [hK] at hT
                clear hE hK HF'
                go_wp2_with fail
                refine (ref_Trim' p wr (fsz_max (by omega))).mono ?_
                rintro e w1 ⟨rfl, rfl⟩
                go_wp2_with fail
                refine (hT wr).mono ?_
                rintro e w3 ⟨rfl, rfl⟩
                go_wp2
                go_ret2
                exact tok_none HR.out LJ
              · have HR := Lib.hid (show toksL vs = toksA ((tailC 44 t (j + 1)).foldl tokF (some (lj ++ [lowL (trimL p)]))) (vs.drop (k + 1)) by rw [HF'.out, tokF_one _ _ hE hK])
                rw [hK] at hT
                clear hE hK HF'
                go_wp2_with fail
                refine (ref_Trim' p wr (fsz_max (by omega))).mono ?_
                rintro e w1 ⟨rfl, rfl⟩
                go_wp2_with fail
                refine (hT wr).mono ?_
                rintro e w3 ⟨rfl, rfl⟩
                go_wp2_with fail
                refine (ref_LowerS ⟨(trimL p).toArray⟩ wr (Nat.le_trans (Nat.le_trans htr (Nat.le_trans hplen hts)) (by decide))).mono ?_
                rw [show (⟨(trimL p).toArray⟩ : ByteArray).data.toList = trimL p from rfl]
                rintro e w3 ⟨rfl, L3⟩
                have LM := stepW LJ L3
                have hol := hoj.belowW L3
                have hSl := L3.size
                clear LJ hoj
                go_wp2_with (at_builtin; refine wp_appS1 rfl _ _ rfl w.heap.size _ _ rfl hol _ rfl ⟨(lowL (trimL p)).toArray⟩ rfl (by omega) (by omega) ?_; intro v' w4 ho4 hx)
                go_roundw
                case rel => exact ⟨j + 1, j + 1, lj ++ [lowL (trimL p)], by omega, by omega, by go_num, by go_num, ho4, by simp; omega, .inr rfl, HN', HR, LM.trans (hx.below hol (Nat.le_refl _) (by omega))⟩
                case measure => simp [intOf]; omega
          · have hkl : j < t.length := by
              rcases (by omega : j = t.length ∨ j < t.length) with h | h
              · exfalso
                rw [HSl.out, h, List.drop_append_of_le_length (Nat.le_refl _), List.drop_of_length_le (Nat.le_refl _)] at hx
                simp at hx
                exact h44 hx.symm
              · exact h
            have hlc : t[j]? = some x := by
              rw [HSl.out, List.drop_append_of_le_length (by omega), List.drop_eq_getElem_cons hkl] at hx
              rw [List.getElem?_eq_getElem hkl]
              exact congrArg some (List.cons.inj hx).1
            have HN' := Lib.hid (noC_step 44 t f j x hfj hlc h44 HN.out)
            have hcne : ((x.toNat : Int) != 44) = true := by
              rw [bne_iff_ne]; intro h; exact h44 (u8inj (by simp; omega))
            clear hx hlc h44
            go_wp2
            go_roundw
            case rel => exact ⟨f, j + 1, lj, by omega, by omega, rfl, by go_num, hoj, by omega, .inl (by omega), HN', HF, LJ⟩
            case measure => simp [intOf]; omega
        · have hfe : f = t.length + 1 := by omega
          have HR := Lib.hid (show toksL vs = toksA (some lj) (vs.drop (k + 1)) by rw [HF.out, hfe, tailC_end]; rfl)
          go_wp2
          go_roundw
          case rel => exact ⟨k + 1, lj, by omega, by go_num, hoj, by omega, HR, LJ⟩
          case measure => simp [intOf]; omega
    · have HR := Lib.hid (show toksL vs = some l by rw [H.out, List.drop_of_length_le (by omega)]; rfl)
      go_wp2
      go_ret2
      exact tok_ret ho HR.out L
end Go.Proofs.YtfpojnijjpojlaaGreatDoor
