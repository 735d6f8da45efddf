/- usherref10.Is. usherref9.Tokens, Has; list.Has' kin. usherref10: Is, Add, Values, Get. usherref10.Get. usherref9.Has. -/
import Derived.Test.YtlambdccmfnloaaGreatDoorFPl
import Derived.Test.YtlambdccmfnloaaGreatDoorPlain
import Derived.Test.YtlambdccmfnloaaGreatDoorTok
import Derived.Test.YtlambdccmfnloaaGreatDoorTRef
namespace Go.Proofs.YtlambdccmfnloaaGreatDoor
open Go.RowKit
set_option maxRecDepth 100000
set_option maxHeartbeats 2000000

theorem ref_Trim' (l : Bs) (w : World) (hs : l.length ≤ maxLen) :
    Calls Tryz.prog 149 #[sv l] w fun e w' => e = .returned (sv (trimL l)) ∧ w = w' := by
  refine (ref_Trim ⟨l.toArray⟩ w hs).mono ?_
  rintro e w' ⟨t, rfl, ht, rfl⟩
  refine ⟨?_, rfl⟩
  rw [show t = ⟨(trimL l).toArray⟩ from str_ext ht]

theorem ref10_Is (f : Fd) (w : World) (h1 : f.1.length ≤ 1000000) (h2 : f.2.length ≤ 1000000) :
    Calls Tryz.prog 97 #[.agg #[sv f.1, sv f.2]] w fun e w' => e = .returned (.bool (isF f)) ∧ Below w.heap.size w w' := by
  have e1 : (⟨f.1.toArray⟩ : ByteArray).data.toList = f.1 := rfl
  have e2 : (⟨f.2.toArray⟩ : ByteArray).data.toList = f.2 := rfl
  have hT := fun w => ref_IsToken ⟨f.1.toArray⟩ w (fsz_max h1)
  have hV := fun w => ref_IsValue ⟨f.2.toArray⟩ w (fsz_max h2)
  have hM := fun w => ref_Trim' f.2 w (fsz_max h2)
  rw [e1, show (allT f.1 && decide (0 < f.1.length)) = tkL f.1 from rfl] at hT
  rw [e2] at hV
  have LW : Below w.heap.size w (w.alloc (.cells #[sv f.1, sv f.2] 72)) := allocW (Below.refl _ _) _
  have B1 : Blk (w.alloc (.cells #[sv f.1, sv f.2] 72)) w.heap.size 72 #[sv f.1, sv f.2] := Blk.new' _ _ rfl _ _
  cases t1 : tkL f.1
  · have HR := Lib.hid (show isF f = false by rw [isF, t1]; rfl)
    rw [t1] at hT
    go_enter Tryz.func97, Tryz.ntmps97
    go_wp2_with fail
    obtain ⟨V, hV'⟩ : ∃ V, V = w.alloc (.cells #[sv f.1, sv f.2] 72) := ⟨_, rfl⟩
    rw [← hV'] at B1 LW ⊢
    obtain ⟨j0, j1, i0, i1⟩ := B1.c2
    clear hV'
    go_quiet ((go_at_call 147; exact quiet_lf (hT _)))
    go_wp2
    go_ret
    exact ⟨by rw [HR.out]; rfl, below_drewN' LW _⟩
  · rw [t1] at hT
    cases t2 : allV f.2
    · have HR := Lib.hid (show isF f = false by rw [isF, t1, t2]; rfl)
      rw [t2] at hV
      clear t1 t2
      go_enter Tryz.func97, Tryz.ntmps97
      go_wp2_with fail
      obtain ⟨V, hV'⟩ : ∃ V, V = w.alloc (.cells #[sv f.1, sv f.2] 72) := ⟨_, rfl⟩
      rw [← hV'] at B1 LW ⊢
      obtain ⟨j0, j1, i0, i1⟩ := B1.c2
      clear hV'
      go_quiet ((first | (go_at_call 147; exact quiet_lf (hT _)) | (go_at_call 148; exact quiet_lf (hV _))))
      go_wp2
      go_ret
      exact ⟨by rw [HR.out]; rfl, below_drewN' LW _⟩
    · have HR := Lib.hid (show isF f = decide (trimL f.2 = f.2) by rw [isF, t1, t2]; rfl)
      rw [t2] at hV
      clear t1 t2
      go_enter Tryz.func97, Tryz.ntmps97
      go_wp2_with fail
      obtain ⟨V, hV'⟩ : ∃ V, V = w.alloc (.cells #[sv f.1, sv f.2] 72) := ⟨_, rfl⟩
      rw [← hV'] at B1 LW ⊢
      obtain ⟨j0, j1, i0, i1⟩ := B1.c2
      clear hV'
      go_quiet ((first | (go_at_call 147; exact quiet_lf (hT _)) | (go_at_call 148; exact quiet_lf (hV _)) | (go_at_call 149; exact quiet_lf (hM _))))
      go_wp2
      refine bodyPost_ret (v := .bool (decide (trimL f.2 = f.2))) ?_ rfl ⟨by rw [HR.out], below_drewN' LW _⟩
      simp [results, Tryz.results97, go_sem]
      rw [Bool.eq_iff_iff, beq_iff_eq, decide_eq_true_eq]

theorem ref10_Is' (N M : ByteArray) (w : World) (h1 : N.size ≤ 1000000) (h2 : M.size ≤ 1000000) :
    Calls Tryz.prog 97 #[.agg #[.string N, .string M]] w fun e w' => e = .returned (.bool (isF (N.data.toList, M.data.toList))) ∧ Below w.heap.size w w' := by
  have h := ref10_Is (N.data.toList, M.data.toList) w (by rw [len_data]; exact h1) (by rw [len_data]; exact h2)
  simp only [sv, ← str_eta] at h
  exact h
end Go.Proofs.YtlambdccmfnloaaGreatDoor
namespace Go.Proofs.YtlambdccmfnloaaGreatDoor
open Go.RowKit
set_option maxRecDepth 100000
set_option maxHeartbeats 2000000

/-- The pieces from f on. -/
def tailC (c : UInt8) (l : Bs) (f : Nat) : List Bs := if f ≤ l.length then splitL c (l.drop f) else []
theorem tailC_step (x : UInt8) (l : Bs) (f i : Nat) (hf : f ≤ i) (hi : i ≤ l.length) (hn : ∀ b ∈ (l.drop f).take (i - f), b ≠ x) (hc : i = l.length ∨ l[i]? = some x) : tailC x l f = (l.drop f).take (i - f) :: tailC x l (i + 1) := by
  rw [tailC, if_pos (by omega)]
  rcases hc with h | h
  · rw [tailC, if_neg (by omega)]
    have : (l.drop f).take (i - f) = l.drop f := List.take_of_length_le (by rw [List.length_drop]; omega)
    rw [this] at hn ⊢
    exact splitL_free x _ hn
  · have hlt : i < l.length := by
      rcases Nat.lt_or_ge i l.length with h1 | h1
      · exact h1
      · rw [List.getElem?_eq_none h1] at h; cases h
    rw [tailC, if_pos (by omega)]
    have e : l.drop f = (l.drop f).take (i - f) ++ x :: l.drop (i + 1) := by
      have h1 := List.take_append_drop (i - f) (l.drop f)
      rw [List.drop_drop, show f + (i - f) = i by omega, List.drop_eq_getElem_cons hlt] at h1
      rw [List.getElem?_eq_getElem hlt] at h
      rw [Option.some.inj h] at h1
      exact h1.symm
    generalize (l.drop f).take (i - f) = t at e hn
    rw [e]
    exact splitL_append x t _ hn
theorem noC_step (x : UInt8) (l : Bs) (f i : Nat) (c : UInt8) (hf : f ≤ i) (h : l[i]? = some c) (hc : c ≠ x) (hn : ∀ b ∈ (l.drop f).take (i - f), b ≠ x) : ∀ b ∈ (l.drop f).take (i + 1 - f), b ≠ x := by
  intro b hb
  rw [show i + 1 - f = (i - f) + 1 by omega, List.take_add_one, List.getElem?_drop, show f + (i - f) = i by omega, h] at hb
  rcases List.mem_append.1 hb with hb | hb
  · exact hn b hb
  · have : b = c := by simpa using hb
    exact this ▸ hc
theorem tailC_zero (x : UInt8) (l : Bs) : tailC x l 0 = splitL x l := by simp [tailC]
theorem tailC_end (x : UInt8) (l : Bs) : tailC x l (l.length + 1) = [] := by rw [tailC, if_neg (by omega)]
theorem pieceC (x : UInt8) (S : ByteArray) (l : Bs) (hS : S.data.toList = l ++ [x]) (f i : Nat) (hi : i ≤ l.length) : S.extract f i = ⟨((l.drop f).take (i - f)).toArray⟩ := by
  apply str_ext
  rw [ext_data, hS]
  show _ = (l.drop f).take (i - f)
  rcases Nat.le_total f l.length with h | h
  · rw [List.drop_append_of_le_length h, List.take_append_of_le_length (by rw [List.length_drop]; omega)]
  · rw [show i - f = 0 by omega]; simp
theorem toksA_some (vs : List Bs) (P : List Bs) (st : Option (List Bs)) (p : Bs) : toksA ((p :: P).foldl tokF st) vs = toksA (P.foldl tokF (tokF st p)) vs := rfl
theorem toksA_bad (vs P : List Bs) : toksA (P.foldl tokF none) vs = none := by rw [tokF_none, toksA_none]
set_option maxHeartbeats 4000000 in
theorem ref9_Tokens (A : Option Addr) (c B : Nat) (vs : List Bs) (w : World) (hA : Rd w B 1 A vs.length (vs.map tv)) (hB : B ≤ w.heap.size) (hn : vs.length ≤ 1000) (hsz : TxSz vs) :
    Calls Tryz.prog 259 #[.slice A vs.length c] w (TokPost w (toksL vs)) := by
  go_enter Tryz.func259, Tryz.ntmps259
  go_wp2
  go_loopw [4, 5] (fun v i wr => ∃ (k : Nat) (l : List Bs), k ≤ vs.length ∧ i = .int .i64 k ∧ OS wr w.heap.size v l ∧ l.length ≤ k * 1000001 ∧ Hid (toksL vs = toksA (some l) (vs.drop k)) ∧ Below w.heap.size w wr) (fun _ i _ => vs.length - (intOf i).toNat)
  case atStart => exact ⟨0, [], Nat.zero_le _, rfl, OS.nil _ _, Nat.le_refl _, rfl, Below.refl _ _⟩
  case round =>
    obtain ⟨k, l, hk, rfl, ho, hl, H, L⟩ := hrel
    have hS := L.size
    by_cases hlt : k < vs.length
    · obtain ⟨t, ht, hd⟩ := drop_tx hlt
      have hts := hsz t (List.mem_of_getElem? ht)
      have hA1 := hA.belowW hB L
      obtain ⟨b, o, rfl, hbB, x0⟩ := hA1.tx k t ht
      have H2 := Lib.hid (toks_at vs k _ t hd H.out)
      obtain ⟨S, hSS⟩ : ∃ S : ByteArray, S = (⟨t.toArray⟩ : ByteArray) ++ ⟨#[44]⟩ := ⟨_, rfl⟩
      have hSl : S.data.toList = t ++ [44] := by rw [hSS, app_data]
      have hSz : S.size = t.length + 1 := by rw [← len_data, hSl, List.length_append]; rfl
      have HSl := Lib.hid hSl
      have hSe := hSS.symm
      clear ht hd H hSS hSl
      go_wp2
      go_loopw [4, 7, 8] (fun v fr i wi => ∃ (f j : Nat) (lj : List Bs), f ≤ j ∧ j ≤ t.length + 1 ∧ fr = .int .i64 f ∧ i = .int .i64 j ∧ OS wi w.heap.size v lj ∧ lj.length ≤ k * 1000001 + f ∧ (j ≤ t.length ∨ f = j) ∧ Hid (∀ b ∈ (t.drop f).take (j - f), b ≠ 44) ∧ Hid (toksL vs = toksA ((tailC 44 t f).foldl tokF (some lj)) (vs.drop (k + 1))) ∧ Below w.heap.size w wi) (fun _ _ i _ => t.length + 1 - (intOf i).toNat)
      case atStart =>
        refine ⟨0, 0, l, Nat.le_refl _, Nat.zero_le _, rfl, rfl, ho, Nat.le_trans hl (Nat.le_add_right _ _), .inl (Nat.zero_le _), ?_, ?_, L⟩
        · intro b hb; simp at hb
        · rw [tailC_zero]; exact H2
      case round =>
        obtain ⟨f, j, lj, hfj, hj, rfl, rfl, hoj, hlj, hfl, HN, HF, LJ⟩ := hrel
        have hSJ := LJ.size
        have hSb := PlainAid.get_bt S
        by_cases hjt : j < t.length + 1
        · obtain ⟨x, hx, hxt⟩ := drop_bt S j (by omega)
          have hx8 := u8lt x
          have hfl2 : f ≤ t.length := by omega
          by_cases h44 : x = 44
          · subst h44
            have hq2 : PlainAid.bt S j = 44 := hxt
            have hk44 : j = t.length ∨ t[j]? = some 44 := by
              rcases (by omega : j = t.length ∨ j < t.length) with h | h
              · exact .inl h
              · rw [HSl.out, List.drop_append_of_le_length (by omega), List.drop_eq_getElem_cons h] at hx
                exact .inr (by rw [List.getElem?_eq_getElem h]; exact congrArg some (List.cons.inj hx).1)
            obtain ⟨p, hp⟩ : ∃ p, p = (t.drop f).take (j - f) := ⟨_, rfl⟩
            have hpe : S.extract f j = ⟨p.toArray⟩ := by rw [pieceC 44 S t HSl.out f j (by omega), hp]
            have hplen : p.length ≤ t.length := by rw [hp]; exact Nat.le_trans (List.length_take_le _ _) (by omega)
            have hT := tailC_step 44 t f j hfj (by omega) HN.out hk44
            rw [← hp] at hT
            have HF' := Lib.hid (show toksL vs = toksA ((tailC 44 t (j + 1)).foldl tokF (tokF (some lj) p)) (vs.drop (k + 1)) by rw [HF.out, hT, toksA_some])
            have HN' : Hid (∀ b ∈ (t.drop (j + 1)).take (j + 1 - (j + 1)), b ≠ 44) := by intro b hb; simp at hb
            have htr := trimL_len p
            clear hx hxt hk44 hp hT HN HF
            by_cases hE : trimL p = []
            · have HR : Hid (toksL vs = toksA ((tailC 44 t (j + 1)).foldl tokF (some lj)) (vs.drop (k + 1))) := by rw [HF'.out, tokF_skip _ _ hE]; exact Lib.hid rfl
              have hEb : (trimL p).isEmpty = true := by rw [hE]; rfl
              clear hE HF'
              go_wp2_with fail
              refine (ref_Trim' p wr (fsz_max (by omega))).mono ?_
              rintro e w1 ⟨rfl, rfl⟩
              go_wp2
              go_roundw
              case rel => exact ⟨j + 1, j + 1, lj, by omega, by omega, by go_num, by go_num, hoj, by omega, .inr rfl, HN', HR, LJ⟩
              case measure => simp [intOf]; omega
            · have hEb : (trimL p).isEmpty = false := by rw [List.isEmpty_eq_false_iff]; exact hE
              have hT := fun w => ref_IsToken ⟨(trimL p).toArray⟩ w (fsz_max (Nat.le_trans htr (Nat.le_trans hplen hts)))
              rw [show (⟨(trimL p).toArray⟩ : ByteArray).data.toList = trimL p from rfl, show (allT (trimL p) && decide (0 < (trimL p).length)) = tkL (trimL p) from rfl] at hT
              cases hK : tkL (trimL p)
              · have HR := Lib.hid (show toksL vs = none by rw [HF'.out, tokF_bad _ _ hE hK, toksA_bad])
                rw [hK] at hT
                clear hE hK HF'
                go_wp2_with fail
                refine (ref_Trim' p wr (fsz_max (by omega))).mono ?_
                rintro e w1 ⟨rfl, rfl⟩
                go_wp2_with fail
                refine (hT wr).mono ?_
                rintro e w3 ⟨rfl, rfl⟩
                go_wp2
                go_ret2
                exact tok_none HR.out LJ
              · have HR := Lib.hid (show toksL vs = toksA ((tailC 44 t (j + 1)).foldl tokF (some (lj ++ [lowL (trimL p)]))) (vs.drop (k + 1)) by rw [HF'.out, tokF_one _ _ hE hK])
                rw [hK] at hT
                clear hE hK HF'
                go_wp2_with fail
                refine (ref_Trim' p wr (fsz_max (by omega))).mono ?_
                rintro e w1 ⟨rfl, rfl⟩
                go_wp2_with fail
                refine (hT wr).mono ?_
                rintro e w3 ⟨rfl, rfl⟩
                go_wp2_with fail
                refine (ref_LowerS ⟨(trimL p).toArray⟩ wr (Nat.le_trans (Nat.le_trans htr (Nat.le_trans hplen hts)) (by decide))).mono ?_
                rw [show (⟨(trimL p).toArray⟩ : ByteArray).data.toList = trimL p from rfl]
                rintro e w3 ⟨rfl, L3⟩
                have LM := stepW LJ L3
                have hol := hoj.belowW L3
                have hSl := L3.size
                clear LJ hoj
                go_wp2_with (at_builtin; refine wp_appS1 rfl _ _ rfl w.heap.size _ _ rfl hol _ rfl ⟨(lowL (trimL p)).toArray⟩ rfl (by omega) (by omega) ?_; intro v' w4 ho4 hx)
                go_roundw
                case rel => exact ⟨j + 1, j + 1, lj ++ [lowL (trimL p)], by omega, by omega, by go_num, by go_num, ho4, by simp; omega, .inr rfl, HN', HR, LM.trans (hx.below hol (Nat.le_refl _) (by omega))⟩
                case measure => simp [intOf]; omega
          · have hkl : j < t.length := by
              rcases (by omega : j = t.length ∨ j < t.length) with h | h
              · exfalso
                rw [HSl.out, h, List.drop_append_of_le_length (Nat.le_refl _), List.drop_of_length_le (Nat.le_refl _)] at hx
                simp at hx
                exact h44 hx.symm
              · exact h
            have hlc : t[j]? = some x := by
              rw [HSl.out, List.drop_append_of_le_length (by omega), List.drop_eq_getElem_cons hkl] at hx
              rw [List.getElem?_eq_getElem hkl]
              exact congrArg some (List.cons.inj hx).1
            have HN' := Lib.hid (noC_step 44 t f j x hfj hlc h44 HN.out)
            have hcne : ((x.toNat : Int) != 44) = true := by
              rw [bne_iff_ne]; intro h; exact h44 (u8inj (by simp; omega))
            clear hx hlc h44
            go_wp2
            go_roundw
            case rel => exact ⟨f, j + 1, lj, by omega, by omega, rfl, by go_num, hoj, by omega, .inl (by omega), HN', HF, LJ⟩
            case measure => simp [intOf]; omega
        · have hfe : f = t.length + 1 := by omega
          have HR := Lib.hid (show toksL vs = toksA (some lj) (vs.drop (k + 1)) by rw [HF.out, hfe, tailC_end]; rfl)
          go_wp2
          go_roundw
          case rel => exact ⟨k + 1, lj, by omega, by go_num, hoj, by omega, HR, LJ⟩
          case measure => simp [intOf]; omega
    · have HR := Lib.hid (show toksL vs = some l by rw [H.out, List.drop_of_length_le (by omega)]; rfl)
      go_wp2
      go_ret2
      exact tok_ret ho HR.out L
end Go.Proofs.YtlambdccmfnloaaGreatDoor
namespace Go.Proofs.YtlambdccmfnloaaGreatDoor
open Go.RowKit
set_option maxRecDepth 100000
set_option maxHeartbeats 2000000

theorem ref10_Add (g base n c B : Nat) (A : Option Addr) (v : Value) (acc l : List Fd) (w : World) (hF : FA w 132 g base v acc) (hA : Rd w B 2 A n (fcells l)) (hB : B ≤ w.heap.size)
    (hne : 0 < n → ∀ a, A = some a → ¬ FS g v a.block) (hsz : FdSz l) (hacc : acc.length ≤ 24) (hb : base ≤ w.heap.size) (hn : n ≤ 140737488355328) :
    Calls Tryz.prog 210 #[.pointer (some ⟨g, 0, none⟩), .slice A n c] w (AddPost 132 w g base v (addL acc l 0)) := by
  have hln := fcells_n hA
  go_enter Tryz.func210, Tryz.ntmps210
  go_wp2
  go_loopw [6] (fun i wr => ∃ (k : Nat) (vk : Value) (ak : List Fd), k ≤ n ∧ i = .int .i64 k ∧ FA wr 132 g base vk ak ∧ ak.length ≤ 24 ∧ Hid (addL acc l 0 = addL ak (l.drop k) k) ∧ Fr (FS g v) w wr ∧ (∀ j, vk.ownBlock = some j → v.ownBlock = some j ∨ w.heap.size ≤ j)) (fun i _ => n - (intOf i).toNat)
  case atStart => exact ⟨0, v, acc, Nat.zero_le _, rfl, hF, hacc, rfl, Fr.refl _ _, fun j h => .inl h⟩
  case round =>
    obtain ⟨k, vk, ak, hk, rfl, hFk, hak, H, hfr, hown⟩ := hrel
    by_cases hlt : k < n
    · obtain ⟨f, hf, hd⟩ := drop_fd (by omega : k < l.length)
      obtain ⟨s1, s2⟩ := hsz.at hf
      have hAk := hA.frm hB hfr hne
      obtain ⟨b, o, rfl, hbB, x0, x1⟩ := hAk.fd hln k f hf
      obtain ⟨Ak, ck, rfl, hc1, hc2, hc3⟩ := hFk.own.form
      have hS := hfr.size
      have H2 := Lib.hid (show addL acc l 0 = addL ak (f :: l.drop (k + 1)) k by rw [H.out, hd])
      have Hf := Lib.hid hf
      clear hf hd H
      go_wp2_with fail
      refine (ref10_Is f wr s1 s2).mono ?_
      rintro e w1 ⟨rfl, LW⟩
      have hF1 := hFk.belowW LW
      have hA1 := hAk.belowW (by omega) LW
      obtain ⟨y0, y1⟩ := hF1.blk.c1
      have hfr1 := hfr.belowW LW
      have hS1 := LW.size
      obtain ⟨b', o', e', hb', z0, z1⟩ := hA1.fd hln k f Hf.out
      injection e' with e'
      injection e' with e1 e2
      subst e1 e2
      clear x0 x1 hc3 hFk hfr
      cases hI : isF f
      · have HR := Lib.hid (H2.out.trans (addL_bad _ _ _ _ hI))
        clear hI
        go_wp2
        go_ret2
        exact ⟨by rw [HR.out]; rfl, by rw [HR.out]; exact ⟨_, hF1, hown⟩, hfr1⟩
      · by_cases h24 : 24 ≤ ak.length
        · have HR := Lib.hid (H2.out.trans (addL_full _ _ _ _ hI h24))
          clear hI
          go_wp2
          go_ret2
          exact ⟨by rw [HR.out]; rfl, by rw [HR.out]; exact ⟨_, hF1, hown⟩, hfr1⟩
        · have HR := Lib.hid (H2.out.trans (addL_one _ _ _ _ hI (by omega)))
          obtain ⟨y2, y3⟩ := (hF1.blk.alloc (.cells #[sv f.1, sv f.2] 72)).c1
          have hkn : (k : Int) < (n : Int) := by omega
          clear hI H2
          go_wp2
          go_region_law (refine step_appF rfl (.tmp 31) (.tmp 36) rfl base (.slice Ak ak.length ck) ak rfl hF1.own (allocW ((Below.refl _ _).drew) _) _ 1 1 (w1.heap.size + 1) rfl [f] rfl (Rd.new w1.drew _ rfl [sv f.1, sv f.2] _ 1 2 rfl) (by simp; omega) (by omega) ?_; intro v' w3 ho3 hx3; obtain ⟨A3, c3, hv3, hc31, hc32, hc33⟩ := ho3.form; rw [show (ak ++ [f]).length = ak.length + 1 by simp] at hv3; subst hv3; have BB := hF1.blk.fr hx3.fr hF1.ne; obtain ⟨q0, q1⟩ := BB.c1)
          all_goals
            go_wp2
            go_roundw
            case rel => exact ⟨k + 1, _, ak ++ [f], by omega, by go_num, hF1.app hx3 ho3, by simp; omega, HR, FS.trans hfr1 (FA.app_fr hx3 _) hown, FS.own hown (by omega) hx3.own⟩
            case measure => simp [intOf]; omega
    · have HR := Lib.hid (H.out.trans (show addL ak (l.drop k) k = (ak, k, 0) by rw [List.drop_of_length_le (by omega)]; rfl))
      obtain rfl : k = n := by omega
      go_wp2
      go_ret2
      exact ⟨by rw [HR.out]; rfl, by rw [HR.out]; exact ⟨_, hFk, hown⟩, hfr⟩
theorem ref10_Values (g : Nat) (l : List Fd) (name : ByteArray) (w : World) (hF : FR w 132 g l) (hl : l.length ≤ 1000000) (hsz : FdSz l) (hnm : name.size ≤ 1000000) :
    Calls Tryz.prog 256 #[.pointer (some ⟨g, 0, none⟩), .string name] w (ValPost w (valsL name.data.toList l)) := by
  obtain ⟨A, c, hB, hc, hA⟩ := hF
  go_enter Tryz.func256, Tryz.ntmps256
  go_wp2
  go_loopw [5, 6] (fun v i wr => ∃ k : Nat, k ≤ l.length ∧ i = .int .i64 k ∧ OS wr w.heap.size v (valsL name.data.toList (l.take k)) ∧ Below w.heap.size w wr) (fun _ i _ => l.length - (intOf i).toNat)
  case atStart => exact ⟨0, Nat.zero_le _, rfl, OS.nil _ _, Below.refl _ _⟩
  case round =>
    obtain ⟨k, hk, rfl, ho, L⟩ := hrel
    have hS := L.size
    obtain ⟨j0, i0⟩ := (hB.belowW L).c1
    by_cases hlt : k < l.length
    · obtain ⟨f, hf, hd⟩ := drop_fd hlt
      obtain ⟨s1, s2⟩ := hsz.at hf
      have hA1 := hA.belowW (Nat.le_refl _) L
      obtain ⟨b, o, rfl, hbB, x0, x1⟩ := hA1.fd rfl k f hf
      have hV := valsL_one name.data.toList l k f hf
      have hvl : (valsL name.data.toList (l.take k)).length ≤ 1000000 := Nat.le_trans (valsL_len _ _) (Nat.le_trans (List.length_take_le _ _) (by omega))
      have HV := Lib.hid hV
      have Hf := Lib.hid hf
      clear hf hd hV
      go_wp2_with fail
      refine (rSame ⟨f.1.toArray⟩ name wr (Nat.le_trans s1 (by decide)) (Nat.le_trans hnm (by decide))).mono ?_
      rw [show (lowL (⟨f.1.toArray⟩ : ByteArray).data.toList == lowL name.data.toList) = nmEq f.1 name.data.toList from rfl]
      rintro e w1 ⟨rfl, LW⟩
      have ho1 := ho.belowW LW
      have hS1 := LW.size
      obtain ⟨b', o', e', hb', z0, z1⟩ := (hA1.belowW (by omega) LW).fd rfl k f Hf.out
      injection e' with e'
      injection e' with e1 e2
      subst e1 e2
      obtain ⟨j2, i2⟩ := ((hB.belowW L).belowW LW).c1
      clear x0 x1 ho j0 i0
      cases hN : nmEq f.1 name.data.toList
      · have HR := Lib.hid (show valsL name.data.toList (l.take (k + 1)) = valsL name.data.toList (l.take k) by rw [HV.out, hN]; simp)
        clear hN HV
        go_wp2
        go_roundw
        case rel => exact ⟨k + 1, by omega, by go_num, by rw [HR.out]; exact ho1, stepW L LW⟩
        case measure => simp [intOf]; omega
      · have HR := Lib.hid (show valsL name.data.toList (l.take (k + 1)) = valsL name.data.toList (l.take k) ++ [f.2] by rw [HV.out, hN]; rfl)
        clear hN HV
        go_wp2_with (at_builtin; refine wp_appS1 rfl _ _ rfl w.heap.size _ _ rfl ho1 _ rfl ⟨f.2.toArray⟩ rfl (by omega) (by omega) ?_; intro v' w2 ho2 hx)
        go_roundw
        case rel => exact ⟨k + 1, by omega, by go_num, by rw [HR.out]; exact ho2, (stepW L LW).trans (hx.below ho1 (Nat.le_refl _) (by omega))⟩
        case measure => simp [intOf]; omega
    · go_wp2
      go_ret
      exact val_ret ho (by rw [List.take_of_length_le (by omega)]) L
end Go.Proofs.YtlambdccmfnloaaGreatDoor
namespace Go.Proofs.YtlambdccmfnloaaGreatDoor
open Go.RowKit
set_option maxRecDepth 100000
set_option maxHeartbeats 2000000

theorem joinC_snoc (x : Bs) : ∀ P : List Bs, joinC (P ++ [x]) = if P = [] then x else joinC P ++ [44, 32] ++ x
  | [] => rfl
  | [a] => by simp [joinC]
  | a :: b :: r => by
    have := joinC_snoc x (b :: r)
    rw [if_neg (by simp)] at this ⊢
    rw [show a :: b :: r ++ [x] = a :: (b :: (r ++ [x])) from rfl, joinC]
    rw [show b :: r ++ [x] = b :: (r ++ [x]) from rfl] at this
    rw [this, joinC]
    simp
theorem joinC_take (P : List Bs) (k : Nat) (x : Bs) (h : P[k]? = some x) : joinC (P.take (k + 1)) = if k = 0 then x else joinC (P.take k) ++ [44, 32] ++ x := by
  rw [List.take_add_one, h, Option.toList_some, joinC_snoc]
  have hk : k < P.length := (List.getElem?_eq_some_iff.1 h).1
  by_cases h0 : k = 0
  · subst h0; simp
  · rw [if_neg h0, if_neg]
    intro h1
    have := congrArg List.length h1
    rw [List.length_take, List.length_nil] at this
    omega
theorem ref10_Get (g : Nat) (l : List Fd) (name : ByteArray) (w : World) (hF : FR w 132 g l) (hl : l.length ≤ 1000000) (hsz : FdSz l) (hnm : name.size ≤ 1000000) :
    Calls Tryz.prog 261 #[.pointer (some ⟨g, 0, none⟩), .string name] w fun e w' => e = .returned (sv (joinC (valsL name.data.toList l))) ∧ Below w.heap.size w w' := by
  have hvl := valsL_len name.data.toList l
  have hvz : ∀ v ∈ valsL name.data.toList l, v.length ≤ 1000000 := fun v hv => by obtain ⟨f, h1, rfl⟩ := valsL_mem _ _ v hv; exact (hsz f h1).2
  go_enter Tryz.func261, Tryz.ntmps261
  go_wp2_with fail
  refine (ref10_Values g l name w hF hl hsz hnm).mono ?_
  rintro e w1 ⟨⟨A, c, rfl, h1, h2, h3⟩, L⟩
  obtain ⟨vs, hvs⟩ : ∃ vs, vs = valsL name.data.toList l := ⟨_, rfl⟩
  rw [← hvs] at hvl hvz h1 h3 ⊢
  have HV := Lib.hid hvs
  clear hvs
  go_wp2
  go_loop [6, 7] (fun v i => ∃ (k : Nat) (t : ByteArray), k ≤ vs.length ∧ i = .int .i64 k ∧ v = .string t ∧ Hid (t.data.toList = joinC (vs.take k))) (fun _ i => vs.length - (intOf i).toNat)
  case atStart => exact ⟨0, ⟨#[]⟩, Nat.zero_le _, rfl, rfl, rfl⟩
  case round =>
    obtain ⟨k, t, hk, rfl, rfl, H⟩ := hrel
    by_cases hlt : k < vs.length
    · obtain ⟨s, hs, -⟩ := drop_tx hlt
      obtain ⟨b, o, rfl, hb, x0⟩ := h3.tx k s hs
      have hsz2 := hvz s (List.mem_of_getElem? hs)
      have hz1 := joinC_len 1000000 (vs.take k) (fun v hv => hvz v (List.mem_of_mem_take hv))
      have hz2 : (vs.take k).length * (1000000 + 2) ≤ 1000000 * (1000000 + 2) := Nat.mul_le_mul_right _ (Nat.le_trans (List.length_take_le _ _) (by omega))
      have hz3 : t.size ≤ 1000000 * (1000000 + 2) := by rw [← len_data, H.out]; exact Nat.le_trans hz1 hz2
      have HJ := Lib.hid (joinC_take vs k s hs)
      clear hs hz1 hz2
      by_cases h0 : k = 0
      · subst h0
        have ht : t = ⟨#[]⟩ := str_ext H.out
        subst ht
        rw [Nat.add_zero] at x0
        go_wp2
        go_round
        case rel => exact ⟨1, _, by omega, rfl, rfl, Lib.hid (by rw [HJ.out, if_pos rfl, app_data]; rfl)⟩
        case measure => simp [intOf]; omega
      · have hk0 : (0 : Int) < k := by omega
        go_wp2
        go_round
        case rel => exact ⟨k + 1, _, by omega, by go_num, rfl, Lib.hid (by rw [HJ.out, if_neg h0, app_data, app_data, H.out])⟩
        case measure => simp [intOf]; omega
    · have HR := Lib.hid (show t = ⟨(joinC vs).toArray⟩ from str_ext (by rw [H.out, List.take_of_length_le (by omega)]))
      go_wp2
      go_ret
      exact ⟨by rw [← HV.out]; show Ending.returned (.string t) = _; rw [HR.out], L⟩
end Go.Proofs.YtlambdccmfnloaaGreatDoor
namespace Go.Proofs.YtlambdccmfnloaaGreatDoor
open Go.RowKit
set_option maxRecDepth 100000
set_option maxHeartbeats 2000000

theorem hasL_none (t : Bs) (vs : List Bs) (h : toksL vs = none) : hasL t vs = false := by rw [hasL, h]
theorem hasL_some (t : Bs) (vs l : List Bs) (h : toksL vs = some l) : hasL t vs = l.contains (lowL t) := by rw [hasL, h]
theorem ref9_Has (tok : ByteArray) (A : Option Addr) (c B : Nat) (vs : List Bs) (w : World) (hA : Rd w B 1 A vs.length (vs.map tv)) (hB : B ≤ w.heap.size) (hn : vs.length ≤ 1000) (hsz : TxSz vs) (ht : tok.size ≤ 1000000) :
    Calls Tryz.prog 260 #[.string tok, .slice A vs.length c] w fun e w' => e = .returned (.bool (hasL tok.data.toList vs)) ∧ Below w.heap.size w w' := by
  go_enter Tryz.func260, Tryz.ntmps260
  go_wp2_with fail
  refine (ref9_Tokens A c B vs w hA hB hn hsz).mono ?_
  rintro e w1 ⟨⟨A1, c1, rfl, h1, h2, h3⟩, L⟩
  cases ho : toksL vs with
  | none =>
    have HR := Lib.hid (hasL_none tok.data.toList vs ho)
    clear ho
    rw [show ((none : Option (List Bs)).getD []) = [] from rfl, show (none : Option (List Bs)).isSome = false from rfl]
    go_wp2
    go_loop [7] (fun i => i = .int .i64 0) (fun i => 1 - (intOf i).toNat)
    case atStart => rfl
    case round =>
      subst hrel
      go_wp2
      go_ret
      exact ⟨by rw [HR.out]; rfl, L⟩
  | some l =>
    have HO := Lib.hid ho
    rw [ho, show ((some l : Option (List Bs)).getD []) = l from rfl] at h1 h3
    rw [show ((some l : Option (List Bs)).getD []) = l from rfl, show (some l : Option (List Bs)).isSome = true from rfl]
    clear ho
    go_wp2
    go_loopw [7] (fun i wr => ∃ k : Nat, k ≤ l.length ∧ i = .int .i64 k ∧ Hid (∀ x ∈ l.take k, x ≠ lowL tok.data.toList) ∧ Below w1.heap.size w1 wr) (fun i _ => l.length - (intOf i).toNat)
    case atStart => exact ⟨0, Nat.zero_le _, rfl, by intro x hx; simp at hx, Below.refl _ _⟩
    case round =>
      obtain ⟨k, hk, rfl, H, L1⟩ := hrel
      have hmx : l.length ≤ 9223372036854775807 := by have : c1 ≤ maxLen := h2; unfold maxLen at this; omega
      by_cases hlt : k < l.length
      · obtain ⟨s, hs, -⟩ := drop_tx hlt
        have hR := h3.belowW (Nat.le_refl _) L1
        obtain ⟨b, o, rfl, hb, x0⟩ := hR.tx k s hs
        have HS := Lib.hid hs
        clear hs
        have hSw := L1.size
        have hR0 := hR.tx k s HS.out
        go_wp2
        go_region_with ((go_at_call 133; refine (ref_LowerS tok _ (by omega)).mono ?_; rintro e w2 ⟨rfl, L2⟩; have L3 := stepW (below_drewN' L1 1) L2; obtain ⟨b2, o2, e2, hb2, x2⟩ := (Rd.belowW hR.drew hSw L2).tx k s HS.out; injection e2 with e2; injection e2 with e2 e3; subst e2 e3))
        all_goals
          cases hE : (s == lowL tok.data.toList)
          · have HN := Lib.hid (show ∀ x ∈ l.take (k + 1), x ≠ lowL tok.data.toList by
              intro x hx
              rw [List.take_add_one, HS.out, Option.toList_some] at hx
              rcases List.mem_append.1 hx with hx | hx
              · exact H.out x hx
              · rw [List.mem_singleton] at hx; subst hx; simpa using hE)
            go_wp2
            go_roundw
            case rel => exact ⟨k + 1, by omega, by go_num, HN, L3⟩
            case measure => simp [intOf]; omega
          · have HR := Lib.hid (show hasL tok.data.toList vs = true by
              rw [hasL_some _ _ _ HO.out, List.contains_iff_mem, ← beq_iff_eq.1 hE]
              exact List.mem_of_getElem? HS.out)
            go_wp2
            go_ret
            exact ⟨by rw [HR.out]; rfl, stepW L L3⟩
      · have HR := Lib.hid (show hasL tok.data.toList vs = false by
          rw [hasL_some _ _ _ HO.out, List.contains_eq_any_beq, List.any_eq_false]
          intro x hx
          have := H.out x (by rw [List.take_of_length_le (by omega)]; exact hx)
          simpa using fun h => this h.symm)
        go_wp2
        go_ret
        exact ⟨by rw [HR.out]; rfl, stepW L L1⟩
end Go.Proofs.YtlambdccmfnloaaGreatDoor
