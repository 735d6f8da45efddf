/- reply: both readers tell the same (plain): fields, chunks, all. -/
import Derived.Test.YtlambdccmfnloaaDoorReU
namespace Go.Proofs.YtlambdccmfnloaaDoor
open Go.RowKit
set_option maxRecDepth 100000
set_option maxHeartbeats 4000000

/-! ## Chunks -/
theorem hx_dig (b : UInt8) (h : hxB b = true) : 0 ≤ digB b.toNat ∧ digB b.toNat < 16 ∧ (b ≠ 48 → 1 ≤ digB b.toNat) := by
  have h2 := byteB (fun b => !hxB b || decide (0 ≤ digB b.toNat ∧ digB b.toNat < 16 ∧ (b ≠ 48 → 1 ≤ digB b.toNat))) (by decide +kernel) b
  simp [h] at h2
  exact ⟨h2.1, h2.2.1, fun e => h2.2.2.resolve_left e⟩
theorem numF_hx : ∀ (l : Bs) (n : Int), 0 ≤ n → l.all hxB = true → ∃ v, numF 16 l n = some v ∧ n ≤ v
  | [], n, h, _ => ⟨n, rfl, Int.le_refl _⟩
  | b :: l, n, h, ha => by
    simp only [List.all_cons, Bool.and_eq_true] at ha
    obtain ⟨h1, h2, -⟩ := hx_dig b ha.1
    obtain ⟨v, hv, hle⟩ := numF_hx l (n * 16 + digB b.toNat) (by omega) ha.2
    refine ⟨v, ?_, by omega⟩
    rw [numF, if_neg (by omega), hv]
theorem hexV_pos (c : UInt8) (l : Bs) (hc : c ≠ 48) (ha : (c :: l).all hxB = true) (hl : (c :: l).length ≤ 12) : hexV (c :: l) ≠ 0 := by
  simp only [List.all_cons, Bool.and_eq_true] at ha
  obtain ⟨h1, h2, h3⟩ := hx_dig c ha.1
  have h4 := h3 hc
  obtain ⟨v, hv, hle⟩ := numF_hx l (0 * 16 + digB c.toNat) (by omega) ha.2
  unfold hexV numR
  rw [if_neg (by simp at hl ⊢; omega), numF, if_neg (by omega), hv]
  simp; omega
theorem chks_same : ∀ (n m : Nat) (B : Bs) (P : List Int) (r : Bs), r.length < n → r.length < m → chksL n B P r = chkR m B P r
  | 0, _, _, _, _, h, _ => absurd h (by omega)
  | _ + 1, 0, _, _, _, _, h => absurd h (by omega)
  | n + 1, m + 1, B, P, r, h1, h2 => by
    rw [chksL, chkR]
    rcases r with _ | ⟨c, u⟩
    · simp [numbL, R3.bind, sizL]
    · rw [numbL]
      by_cases hc : c = 48
      · subst hc
        rw [if_pos rfl, R3.bind_ok]
        by_cases hP : P = []
        · simp [hP]
        · rw [if_neg (by simp [hP]), if_neg (by simp [hP])]
          rcases u with _ | ⟨d, u⟩
          · have : sizL [48] = (0, -1) := by decide
            rw [this]; simp [crlf, textL, R3.bind]
          · have hd : hxB d = true ∨ hxB d = false := by cases hxB d <;> simp
            rcases hd with hd | hd
            · have hs : (sizL (48 :: d :: u)).2 = -2 := by
                unfold sizL
                simp only
                rw [if_pos]
                refine ⟨?_, rfl⟩
                rw [List.take_succ_cons, List.take_succ_cons, List.takeWhile_cons, List.takeWhile_cons, hd]
                simp [show hxB 48 = true by decide]
              rw [hs, crlf, text_cons, if_neg (hx_no d hd).2]
              simp [R3.bind]
            · have hn : ((48 :: d :: u).take 12).takeWhile hxB = [48] := by
                rw [List.take_succ_cons, List.take_succ_cons, List.takeWhile_cons, List.takeWhile_cons, hd]
                simp [show hxB 48 = true by decide]
              have hs : sizL (48 :: d :: u) = if d ≠ 13 then ((0 : Int), (-2 : Int)) else match u with
                  | [] => ((0 : Int), (-1 : Int))
                  | e :: _ => if e ≠ 10 then ((0 : Int), (-2 : Int)) else ((3 : Int), (0 : Int)) := by
                unfold sizL
                simp only [hn]
                rw [if_neg (by simp)]
                simp only [List.length_singleton, List.drop_succ_cons, List.drop_zero]
                rw [show hexV ((48 :: d :: u).take 1) = 0 by rw [List.take_succ_cons, List.take_zero]; decide]
                by_cases h13 : d = 13
                · subst h13
                  cases u with
                  | nil => simp
                  | cons e u => simp
                · simp [h13]
              rw [hs, crlf, text_cons]
              by_cases h13 : d = 13
              · subst h13
                rw [if_pos rfl]
                rcases u with _ | ⟨e, u⟩
                · simp [textL, R3.bind]
                · rw [text_cons]
                  by_cases h10 : e = 10
                  · subst h10
                    simp only [ne_eq, not_true_eq_false, if_false, if_true]
                    rw [textL, R3.bind_ok]
                    rcases u with _ | ⟨a, _ | ⟨b, u⟩⟩
                    · simp [textL, R3.bind]
                    · by_cases ha : a = 13 <;> simp [textL, R3.bind, List.isPrefixOf, ha]
                    · by_cases ha : a = 13
                      · by_cases hb : b = 10 <;> simp [textL, R3.bind, List.isPrefixOf, ha, hb]
                      · simp [textL, R3.bind, List.isPrefixOf, ha]
                  · simp [h10, R3.bind]
              · simp [h13, R3.bind]
      · rw [if_neg hc]
        have hh : ¬ (P = [] ∧ (c :: u).head? = some 48) := by rintro ⟨-, h⟩; simp at h; exact hc h
        rw [if_neg hh]
        have hT : ∀ v, ((c :: u).take 12).takeWhile hxB = v → v.all hxB = true ∧ v.length ≤ 12 ∧ (c :: u) = v ++ (c :: u).drop v.length := by
          rintro v rfl
          refine ⟨take_all hxB _, ?_, ?_⟩
          · have := (List.takeWhile_sublist hxB (l := (c :: u).take 12)).length_le
            rw [List.length_take] at this
            omega
          · have h3 : ((c :: u).take 12).takeWhile hxB <+: c :: u := (List.takeWhile_prefix hxB).trans (List.take_prefix _ _)
            exact (List.prefix_iff_eq_append.1 h3).symm
        obtain ⟨ha, hl, hv⟩ := hT _ rfl
        generalize hA : ((c :: u).take 12).takeWhile hxB = a at *
        by_cases ha0 : a = []
        · have hs : (sizL (c :: u)).2 = -2 := by
            unfold sizL
            simp only [hA, ha0]
            rw [if_neg (by simp)]
            simp
          rw [if_pos ha0, hs]; simp [R3.bind]
        · rw [if_neg ha0, R3.bind_ok]
          have ha48 : a ≠ [48] := by
            rintro rfl
            have := congrArg List.head? hv
            simp at this
            exact hc this
          have hpos : hexV a ≠ 0 := by
            cases a with
            | nil => exact absurd rfl ha0
            | cons x a =>
              have := congrArg List.head? hv
              simp at this
              exact hexV_pos x a (by rw [← this]; exact hc) ha hl
          have hlen : 1 ≤ a.length := by cases a with | nil => exact absurd rfl ha0 | cons _ _ => simp
          have htk : (c :: u).take a.length = a := by conv => lhs; rw [hv]
                                                      simp
          rw [if_neg (fun e => ha48 e.1)]
          have hs : sizL (c :: u) = match (c :: u).drop a.length with
              | [] => (0, -1)
              | d :: r => if d ≠ 13 then (0, -2) else match r with
                | [] => (0, -1)
                | e :: _ => if e ≠ 10 then (0, -2) else ((a.length : Int) + 2, (hexV a : Int)) := by
            unfold sizL
            simp only [hA]
            rw [if_neg (by rintro ⟨-, h⟩; simp at h; exact hc h), htk]
            cases (c :: u).drop a.length with
            | nil => rfl
            | cons d r =>
              simp only
              by_cases h13 : d = 13
              · subst h13
                rw [if_neg (by simp; omega), if_neg (by simp)]
                cases r <;> rfl
              · rw [if_pos (.inr h13), if_pos h13]
          rw [hs]
          have hdd : ∀ k, (c :: u).drop (a.length + k) = ((c :: u).drop a.length).drop k := fun k => by rw [List.drop_drop]
          have hll : ((c :: u).drop a.length).length + a.length = (c :: u).length := by rw [List.length_drop]; have := congrArg List.length hv; simp at this; simp; omega
          generalize hR : (c :: u).drop a.length = R at *
          rcases R with _ | ⟨d, R⟩
          · simp [crlf, textL, R3.bind]
          · rw [crlf, text_cons]
            by_cases h13 : d = 13
            · subst h13
              rw [if_pos rfl]
              rcases R with _ | ⟨e, R⟩
              · simp [textL, R3.bind]
              · rw [text_cons]
                by_cases h10 : e = 10
                · subst h10
                  simp only [ne_eq, not_true_eq_false, if_false, if_true]
                  rw [textL, R3.bind_ok, if_neg ha48]
                  rw [show ((a.length : Int) + 2).toNat = a.length + 2 by omega, hdd 2]
                  simp only [List.drop_succ_cons, List.drop_zero, Int.toNat_natCast]
                  rw [if_neg (by omega), if_neg (by omega)]
                  unfold dataL
                  by_cases hlt : R.length < hexV a
                  · rw [if_pos hlt, if_pos hlt]; rfl
                  · rw [if_neg hlt, if_neg hlt, R3.bind_ok]
                    have hq : (R.drop (hexV a)).length ≤ R.length := by rw [List.length_drop]; omega
                    generalize R.drop (hexV a) = Q at *
                    rcases Q with _ | ⟨x, _ | ⟨y, Q⟩⟩
                    · simp [textL, R3.bind]
                    · by_cases hx : x = 13 <;> simp [textL, R3.bind, List.isPrefixOf, hx]
                    · by_cases hx : x = 13
                      · by_cases hy : y = 10
                        · subst hx; subst hy
                          have hi := chks_same n m (B ++ R.take (hexV a)) (P ++ [((B ++ R.take (hexV a)).length : Int)]) Q (by simp at hll hq h1; omega) (by simp at hll hq h2; omega)
                          have hpos' : ¬ ((hexV a : Nat) : Int) = 0 := by omega
                          rw [show textL [13, 10] (13 :: 10 :: Q) = .ok () Q from text_self [13, 10] Q, R3.bind_ok, hi]
                          rw [if_neg (show ¬ (!((13 :: 10 :: Q).take 2).isPrefixOf [13, 10]) = true by simp [List.isPrefixOf]), if_neg (by simp), if_neg hpos']
                          simp
                        · subst hx
                          simp [textL, R3.bind, List.isPrefixOf, hy]
                      · simp [textL, R3.bind, List.isPrefixOf, hx]
                · simp [h10, R3.bind]
            · simp [h13, R3.bind]

/-! ## Fields -/
theorem tk_cl : clN.all tkB = true := by decide
theorem tk_te : teN.all tkB = true := by decide
theorem tk_co : coN.all tkB = true := by decide
theorem tk58 : tkB 58 = false := by decide
theorem part_tok (s : Bs) (c : UInt8) (w : Bs) (hs : s.all tkB = true) (hc : tkB c = false) : partL (s ++ c :: w) = (decide (s ≠ []) && decide (c = 58) && !ownN s && partV w) := by
  obtain ⟨h1, h2⟩ := take_app tkB c hc w s hs
  unfold partL
  rw [h1, h2]
  simp only
  by_cases g1 : s = []
  · simp [g1]
  · by_cases g2 : c = 58
    · cases g3 : ownN s <;> simp [g1, g2]
    · simp [g2]
theorem pre_tok (s : Bs) (c : UInt8) (w : Bs) (hs : s.all tkB = true) (hc : tkB c = false) (T : Bs) (hT : T.all tkB = true) (y : Bs) :
    (s ++ c :: w).isPrefixOf (T ++ 58 :: y) = (decide (s = T) && decide (c = 58) && w.isPrefixOf y) ∧ (T ++ 58 :: y).isPrefixOf (s ++ c :: w) = (decide (s = T) && decide (c = 58) && y.isPrefixOf w) := by
  refine ⟨pfx_tok tkB c 58 hc tk58 w y s T hs hT, ?_⟩
  rw [pfx_tok tkB 58 c tk58 hc y w T s hT hs]
  congr 2
  · exact decide_eq_decide.2 eq_comm
  · exact decide_eq_decide.2 eq_comm
/-- What may come of a line among the fields, of which the name is whole. -/
def mayF (nb : Bool) (nf : Nat) (s : Bs) (c : UInt8) (w : Bs) : Bool :=
  if decide (nf < 24) && (decide (s ≠ []) && decide (c = 58) && !ownN s && partV w) then true
  else if !nb && ((decide (s = clN) && decide (c = 58) && (w.isPrefixOf [32] || (([32] : Bs).isPrefixOf w && numbrL (w.drop 1)))) || (decide (s = teN) && decide (c = 58) && w.isPrefixOf (32 :: (chunkedB ++ [13])))) then true
  else nb && (decide (s = coN) && decide (c = 58) && (w.isPrefixOf (32 :: (closeB ++ [13])) || w.isPrefixOf (32 :: (keepB ++ [13]))))
def st1 (st : Int) (fs : List Fd) : RL := ⟨st, fs, 1, false, false, false, 0⟩
theorem may1 (st : Int) (fs : List Fd) (s : Bs) (c : UInt8) (w : Bs) (hs : s.all tkB = true) (hc : tkB c = false) (h0 : s ≠ [] ∨ c ≠ 13) : mayL (st1 st fs) (s ++ c :: w) = mayF (noBody st) fs.length s c w := by
  have hp : (s ++ c :: w).isPrefixOf [13] = false := by
    cases s with
    | nil =>
      rcases h0 with h0 | h0
      · exact absurd rfl h0
      · rw [List.nil_append, pfx_cons]; simp [h0]
    | cons x s => cases s <;> simp [List.isPrefixOf]
  unfold mayL mayF st1
  simp only [hp]
  rw [if_neg (by decide), if_neg (by decide), part_tok s c w hs hc]
  rw [show clS = clN ++ 58 :: [32] from rfl, (pre_tok s c w hs hc clN tk_cl [32]).1, (pre_tok s c w hs hc clN tk_cl [32]).2]
  rw [show teS ++ [13] = teN ++ 58 :: (32 :: (chunkedB ++ [13])) from rfl, (pre_tok s c w hs hc teN tk_te _).1]
  rw [show ccS ++ [13] = coN ++ 58 :: (32 :: (closeB ++ [13])) from rfl, (pre_tok s c w hs hc coN tk_co _).1]
  rw [show ckS ++ [13] = coN ++ 58 :: (32 :: (keepB ++ [13])) from rfl, (pre_tok s c w hs hc coN tk_co _).1]
  have hd : s = clN → (s ++ c :: w).drop 16 = w.drop 1 := by rintro rfl; rfl
  cases noBody st
  · by_cases g1 : s = clN
    · rw [hd g1]
      simp only [decide_true, Bool.not_false, Bool.and_true, Bool.true_and]
      cases decide (s = teN) <;> cases decide (c = 58) <;> simp [g1] <;> (try rfl)
    · simp [g1]
  · simp
    cases decide (s = coN) <;> cases decide (c = 58) <;> simp
end Go.Proofs.YtlambdccmfnloaaDoor
