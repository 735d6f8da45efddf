/- list.Tokens. -/
import Derived.Test.YtmnnbfaaaifcoaaGreatDoorFld3
import Derived.Test.YtmnnbfaaaifcoaaGreatDoorTgt3
namespace Go.Proofs.YtmnnbfaaaifcoaaGreatDoor
open Go.RowKit
set_option maxRecDepth 100000
set_option maxHeartbeats 2000000

def TxSz (l : List Bs) : Prop := ∀ v ∈ l, v.length ≤ 1000000
def TokPost (w : World) (o : Option (List Bs)) (e : Ending) (w' : World) : Prop :=
  (∃ A c, e = .returned (.tuple #[.slice A (o.getD []).length c, .bool o.isSome]) ∧ (o.getD []).length ≤ c ∧ c ≤ maxLen ∧ Rd w' w'.heap.size 1 A (o.getD []).length ((o.getD []).map tv)) ∧ Below w.heap.size w w'
theorem tok_ret {w wr : World} {base : Nat} {v : Value} {l : List Bs} {o : Option (List Bs)} (ho : OS wr base v l) (e : o = some l) (L : Below w.heap.size w wr) : TokPost w o (.returned (.tuple #[v, .bool true])) wr := by
  subst e
  obtain ⟨A, c, hv, h1, h2, h3⟩ := ho.form
  exact ⟨⟨A, c, by rw [hv]; rfl, h1, h2, h3⟩, L⟩
theorem tok_none {w wr : World} {o : Option (List Bs)} (e : o = none) (L : Below w.heap.size w wr) : TokPost w o (.returned (.tuple #[.slice none 0 0, .bool false])) wr := by
  subst e
  exact ⟨⟨none, 0, rfl, Nat.zero_le _, Nat.zero_le _, Rd.nil _ _ _ _⟩, L⟩
theorem trimE_len (l : Bs) : (trimE l).length ≤ l.length := by
  unfold trimE
  rw [List.length_reverse]
  refine Nat.le_trans (List.Sublist.length_le (List.dropWhile_sublist _)) ?_
  rw [List.length_reverse]
  exact Nat.le_refl _
theorem trimL_len (l : Bs) : (trimL l).length ≤ l.length := Nat.le_trans (trimE_len _) (List.Sublist.length_le (List.dropWhile_sublist _))
theorem split_max (c : UInt8) (l : Bs) : (splitL c l).length ≤ l.length + 1 := by
  rw [splitL_len]; have := List.count_le_length (a := c) (l := l); omega
theorem split_sz (c : UInt8) : ∀ (l : Bs) (p : Bs), p ∈ splitL c l → p.length ≤ l.length
  | [], p, h => by simp [splitL] at h; simp [h]
  | b :: l, p, h => by
    rw [splitL] at h
    split at h
    · rcases List.mem_cons.1 h with rfl | h
      · simp
      · have := split_sz c l p h; simp; omega
    · obtain ⟨q, ps, h1⟩ := List.exists_cons_of_ne_nil (splitL_ne c l)
      rw [h1] at h
      rcases List.mem_cons.1 h with rfl | h
      · have := split_sz c l q (by rw [h1]; simp)
        simp; omega
      · have := split_sz c l p (by rw [h1]; simp [h])
        simp; omega
theorem drop_tx {l : List Bs} {k : Nat} (h : k < l.length) : ∃ f, l[k]? = some f ∧ l.drop k = f :: l.drop (k + 1) :=
  ⟨l[k], List.getElem?_eq_getElem h, List.drop_eq_getElem_cons h⟩
theorem toks_at (vs : List Bs) (k : Nat) (st : Option (List Bs)) (v : Bs) (hd : vs.drop k = v :: vs.drop (k + 1)) (H : toksL vs = toksA st (vs.drop k)) : toksL vs = toksA ((splitL 44 v).foldl tokF st) (vs.drop (k + 1)) := by
  rw [H, hd, toksA_cons]
theorem nil_str {s : Bs} (h : s = []) : (sv s : Value) = .string ⟨#[]⟩ := by rw [h]

theorem lst_Tokens (A : Option Addr) (c B : Nat) (vs : List Bs) (w : World) (hA : Rd w B 1 A vs.length (vs.map tv)) (hB : B ≤ w.heap.size) (hn : vs.length ≤ 1000) (hsz : TxSz vs) (hm : ML w) :
    Calls Tryz.prog 115 #[.slice A vs.length c] w (TokPost w (toksL vs)) := by
  go_enter Tryz.func115, Tryz.ntmps115
  go_wp2
  go_loopw [4, 11] (fun v i wr => ∃ (k : Nat) (l : List Bs), k ≤ vs.length ∧ i = .int .i64 k ∧ OS wr w.heap.size v l ∧ l.length ≤ k * 1000001 ∧ Hid (toksL vs = toksA (some l) (vs.drop k)) ∧ Below w.heap.size w wr) (fun _ i _ => vs.length - (intOf i).toNat)
  case atStart => exact ⟨0, [], Nat.zero_le _, rfl, OS.nil _ _, Nat.le_refl _, rfl, Below.refl _ _⟩
  case round =>
    obtain ⟨k, l, hk, rfl, ho, hl, H, L⟩ := hrel
    have hS := L.size
    by_cases hlt : k < vs.length
    · obtain ⟨t, ht, hd⟩ := drop_tx hlt
      have hts := hsz t (List.mem_of_getElem? ht)
      have hA1 := hA.belowW hB L
      obtain ⟨b, o, rfl, hbB, x0⟩ := hA1.tx k t ht
      have H2 := Lib.hid (toks_at vs k _ t hd H.out)
      have hPm := split_max 44 t
      have hPz := split_sz 44 t
      have hmr := hm.below L (Nat.le_refl _)
      clear ht hd H
      go_wp2_with fail
      refine (lib_split1 ⟨t.toArray⟩ 44 wr (by show t.length < _; omega) hmr).mono ?_
      rw [show (⟨t.toArray⟩ : ByteArray).data.toList = t from rfl]
      rintro e w1 ⟨rfl, hR, L1⟩
      obtain ⟨P, hP⟩ : ∃ P, P = splitL 44 t := ⟨_, rfl⟩
      rw [← hP] at hR hPm hPz H2 ⊢
      have LW := stepW L L1
      have ho1 := ho.belowW L1
      have hown : ∀ k, u4.ownBlock = some k → k ≠ wr.heap.size := fun k hk => Nat.ne_of_lt (Own.lt ho k hk).2
      have hS1 := LW.size
      have hm1 := hm.below LW (Nat.le_refl _)
      clear hP L1 x0 hmr hA1 ho L
      obtain ⟨g, hg⟩ : ∃ g, g = wr.heap.size := ⟨_, rfl⟩
      rw [← hg] at hR hown ⊢
      have hgl : g < w1.heap.size ∨ P.length = 0 := by
        rcases Nat.eq_zero_or_pos P.length with h | h
        · exact .inr h
        · obtain ⟨b', o', e', hb', -⟩ := hR.2 h
          have e1 : g = b' := by injection e' with e'; injection e' with e1
          exact .inl (e1 ▸ hb')
      clear hg
      go_wp2
      go_loopw [4, 18] (fun v i wi => ∃ (j : Nat) (lj : List Bs), j ≤ P.length ∧ i = .int .i64 j ∧ OS wi w.heap.size v lj ∧ lj.length ≤ k * 1000001 + j ∧ Hid ((P.take j).foldl tokF (some l) = some lj) ∧ Below w.heap.size w wi ∧ w1.heap.size ≤ wi.heap.size ∧ Rd wi w1.heap.size 1 (some ⟨g, 0, none⟩) P.length (P.map tv) ∧ ∀ k, v.ownBlock = some k → k ≠ g) (fun _ i _ => P.length - (intOf i).toNat)
      case atStart =>
        refine ⟨0, l, Nat.zero_le _, rfl, ho1, ?_, Lib.hid rfl, LW, Nat.le_refl _, hR, hown⟩
        exact Nat.le_trans hl (Nat.le_add_right _ _)
      case round =>
        obtain ⟨j, lj, hj, rfl, hoj, hlj, HJ, LJ, hSJ, hRJ, hownj⟩ := hrel
        have hSj := LJ.size
        have hmj := hm.below LJ (Nat.le_refl _)
        by_cases hjt : j < P.length
        · obtain ⟨s, hs, -⟩ := drop_tx hjt
          have hss := Nat.le_trans (hPz s (List.mem_of_getElem? hs)) hts
          obtain ⟨b2, o2, e2, hb2, x2⟩ := hRJ.tx j s hs
          injection e2 with e2
          injection e2 with e2 e3
          subst e2 e3
          rw [Nat.zero_add] at x2
          have HT := Lib.hid (show (P.take (j + 1)).foldl tokF (some l) = tokF (some lj) s by rw [List.take_add_one, hs, Option.toList_some, List.foldl_append, HJ.out]; rfl)
          have htr := trimL_len s
          have HN := Lib.hid (show tokF (some lj) s = none → toksL vs = none by
            intro h
            rw [H2.out, ← List.take_append_drop (j + 1) P, List.foldl_append, HT.out, h, tokF_none, toksA_none])
          clear hs HJ
          go_wp2_with fail
          refine (asc_Trim ⟨s.toArray⟩ wr (fsz_max hss)).mono ?_
          rw [show (⟨s.toArray⟩ : ByteArray).data.toList = s from rfl]
          rintro e w2 ⟨rfl, L2⟩
          have LK := stepW LJ L2
          have hok := hoj.belowW L2
          have hRk := (hRJ.belowW hSJ L2)
          have hSk := L2.size
          clear LJ hoj hRJ x2
          by_cases hE : trimL s = []
          · have HR := Lib.hid (show (P.take (j + 1)).foldl tokF (some l) = some lj by rw [HT.out, tokF_skip _ _ hE])
            have hEb : (trimL s).isEmpty = true := by rw [hE]; rfl
            clear hE
            go_wp2
            go_roundw
            case rel => exact ⟨j + 1, lj, by omega, by go_num, hok, by omega, HR, LK, by omega, hRk, hownj⟩
            case measure => simp [intOf]; omega
          · have hEb : (trimL s).isEmpty = false := by rw [List.isEmpty_eq_false_iff]; exact hE
            have hT := fun w => asc_IsToken ⟨(trimL s).toArray⟩ w (fsz_max (Nat.le_trans htr hss))
            rw [show (⟨(trimL s).toArray⟩ : ByteArray).data.toList = trimL s from rfl, show (allT (trimL s) && decide (0 < (trimL s).length)) = tkL (trimL s) from rfl] at hT
            cases hK : tkL (trimL s)
            · have HR := Lib.hid (HN.out (tokF_bad _ _ hE hK))
              rw [hK] at hT
              clear hE hK
              go_wp2_with fail
              refine (hT w2).mono ?_
              rintro e w3 ⟨rfl, rfl⟩
              go_wp2
              go_ret2
              exact tok_none HR.out LK
            · have HR := Lib.hid (show (P.take (j + 1)).foldl tokF (some l) = some (lj ++ [lowL (trimL s)]) by rw [HT.out, tokF_one _ _ hE hK])
              rw [hK] at hT
              clear hE hK
              go_wp2_with fail
              refine (hT w2).mono ?_
              rintro e w3 ⟨rfl, rfl⟩
              go_wp2_with fail
              refine (asc_Lower ⟨(trimL s).toArray⟩ w2 (fsz_max (Nat.le_trans htr hss))).mono ?_
              rw [show (⟨(trimL s).toArray⟩ : ByteArray).data.toList = trimL s from rfl]
              rintro e w3 ⟨rfl, L3⟩
              have LM := stepW LK L3
              have hol := hok.belowW L3
              have hRl := hRk.belowW (by omega) L3
              have hSl := L3.size
              clear LK hok hRk
              go_wp2_with (at_builtin; refine wp_appS1 rfl _ _ rfl w.heap.size _ _ rfl hol _ rfl ⟨(lowL (trimL s)).toArray⟩ rfl (by omega) (by omega) ?_; intro v' w4 ho4 hx)
              go_roundw
              case rel =>
                refine ⟨j + 1, lj ++ [lowL (trimL s)], by omega, by go_num, ho4, by simp; omega, HR, LM.trans (hx.below hol (Nat.le_refl _) (by omega)), by have := hx.fr.size; omega, ?_, ?_⟩
                · refine hRl.frm (by omega) hx.fr ?_
                  intro _ a ha hs
                  injection ha with ha
                  subst ha
                  exact hownj _ hs rfl
                · intro k' hk'
                  rcases hx.own k' hk' with h | h
                  · exact hownj k' h
                  · rcases hgl with h2 | h2
                    · omega
                    · omega
              case measure => simp [intOf]; omega
        · have HR := Lib.hid (show toksL vs = toksA (some lj) (vs.drop (k + 1)) by rw [H2.out, ← HJ.out, List.take_of_length_le (by omega)])
          go_wp2
          go_roundw
          case rel => exact ⟨k + 1, lj, by omega, by go_num, hoj, by omega, HR, LJ⟩
          case measure => simp [intOf]; omega
    · have HR := Lib.hid (show toksL vs = some l by rw [H.out, List.drop_of_length_le (by omega)]; rfl)
      go_wp2
      go_ret2
      exact tok_ret ho HR.out L
end Go.Proofs.YtmnnbfaaaifcoaaGreatDoor
