/- reply: both readers of heads tell the same (plain): the first line; the head. -/
import Derived.Test.YtlambdccmfnloaaDoorReS
namespace Go.Proofs.YtlambdccmfnloaaDoor
open Go.RowKit
set_option maxRecDepth 100000
set_option maxHeartbeats 4000000

theorem text_cases : ∀ (T r : Bs), (∃ u, r = T ++ u ∧ textL T r = .ok () u) ∨ (r.isPrefixOf T = true ∧ T.isPrefixOf r = false ∧ textL T r = .short) ∨ (r.isPrefixOf T = false ∧ T.isPrefixOf r = false ∧ textL T r = .bad)
  | [], r => .inl ⟨r, rfl, rfl⟩
  | c :: T, [] => .inr (.inl ⟨rfl, rfl, rfl⟩)
  | c :: T, d :: r => by
    rw [text_cons, pfx_cons, pfx_cons]
    by_cases h : d = c
    · subst h
      rcases text_cases T r with ⟨u, h1, h2⟩ | ⟨h1, h2, h3⟩ | ⟨h1, h2, h3⟩
      · exact .inl ⟨u, by rw [h1]; rfl, by rw [if_pos rfl, h2]⟩
      · exact .inr (.inl ⟨by simp [h1], by simp [h2], by rw [if_pos rfl, h3]⟩)
      · exact .inr (.inr ⟨by simp [h1], by simp [h2], by rw [if_pos rfl, h3]⟩)
    · have h' : ¬ c = d := fun e => h e.symm
      exact .inr (.inr ⟨by simp [h], by simp [h'], by rw [if_neg h]⟩)
theorem digB_dg (b : UInt8) (h : dgB b = true) : digB b.toNat = (b.toNat : Int) - 48 := by
  unfold dgB at h
  simp at h
  unfold digB
  rw [if_pos (by omega)]
theorem digB_no (b : UInt8) (h : dgB b = false) : digB b.toNat < 0 ∨ 10 ≤ digB b.toNat := by
  have h := byteB (fun b => dgB b || decide (digB b.toNat < 0 ∨ 10 ≤ digB b.toNat)) (by decide +kernel) b
  simp [‹dgB b = false›] at h
  exact h
theorem dg_of (b : UInt8) (h : ¬ (digB b.toNat < 0 ∨ 10 ≤ digB b.toNat)) : dgB b = true := by
  cases q : dgB b
  · exact absurd (digB_no b q) h
  · rfl
def dsB (c : UInt8) : Bool := decide (50 ≤ c.toNat) && decide (c.toNat ≤ 53)
theorem dsB_dg (c : UInt8) (h : dsB c = true) : dgB c = true := by
  unfold dsB at h; unfold dgB
  simp at h ⊢; omega
theorem digs3 : ∀ a b c : Fin 10, a ≠ 0 → digs 10 (100 * a.val + 10 * b.val + c.val) = [UInt8.ofNat (48 + a.val), UInt8.ofNat (48 + b.val), UInt8.ofNat (48 + c.val)] := by decide +kernel
theorem beg_len : begB.length = 9 := rfl
theorem first_no (s : Bs) (h1 : begB.isPrefixOf s = false) (h2 : s.isPrefixOf begB = false) : (firstL s).2.2 = false := by
  unfold firstL
  rw [h1, h2]
  split
  · simp
  · split <;> simp
theorem first_F1 (c : UInt8) (v : Bs) (h : dsB c = false) : (firstL (begB ++ c :: v)).2.2 = false := by
  unfold firstL
  split
  · rw [if_pos (by simp [begB]), show (begB ++ c :: v).getD 9 0 = c from rfl]
    unfold dsB at h
    rw [h]; simp
  · split
    · rfl
    · rename_i h12 _ n hn
      rw [if_pos ?_]
      rw [show (begB ++ c :: v).drop 9 = c :: v from rfl] at hn
      rcases v with _ | ⟨d, _ | ⟨e, v⟩⟩
      · simp [begB] at h12
      · simp [begB] at h12
      · rw [show (c :: d :: e :: v).take 3 = [c, d, e] from rfl, numR, if_neg (by simp)] at hn
        have hdg : ∀ x : UInt8, dgB x = true → 48 ≤ x.toNat ∧ x.toNat ≤ 57 := fun x hx => by simpa [dgB] using hx
        rw [numF] at hn
        split at hn
        · cases hn
        · rename_i g1
          rw [numF] at hn
          split at hn
          · cases hn
          · rename_i g2
            rw [numF] at hn
            split at hn
            · cases hn
            · rename_i g3
              rw [numF] at hn
              cases hn
              have q1 := dg_of c g1
              have q2 := dg_of d g2
              have q3 := dg_of e g3
              rw [digB_dg c q1, digB_dg d q2, digB_dg e q3]
              have := hdg c q1
              have := hdg d q2
              have := hdg e q3
              unfold dsB at h
              simp at h ⊢
              omega
theorem first_F2 (c d : UInt8) (v : Bs) (h : dgB d = false) : (firstL (begB ++ c :: d :: v)).2.2 = false := by
  unfold firstL
  split
  · rw [if_pos (by simp [begB]), show (begB ++ c :: d :: v).drop 9 = c :: d :: v from rfl]
    simp [h]
  · split
    · rfl
    · rename_i h12 _ n hn
      rw [show (begB ++ c :: d :: v).drop 9 = c :: d :: v from rfl] at hn
      rcases v with _ | ⟨e, v⟩
      · simp [begB] at h12
      · rw [show (c :: d :: e :: v).take 3 = [c, d, e] from rfl, numR, if_neg (by simp), numF] at hn
        split at hn
        · cases hn
        · rw [numF, if_pos (digB_no d h)] at hn
          cases hn
theorem first_F3 (c d e : UInt8) (v : Bs) (h : dgB e = false) : (firstL (begB ++ c :: d :: e :: v)).2.2 = false := by
  unfold firstL
  rw [if_neg (by simp [begB])]
  split
  · rfl
  · rename_i n hn
    rw [show (begB ++ c :: d :: e :: v).drop 9 = c :: d :: e :: v from rfl, show (c :: d :: e :: v).take 3 = [c, d, e] from rfl, numR, if_neg (by simp), numF] at hn
    split at hn
    · cases hn
    · rw [numF] at hn
      split at hn
      · cases hn
      · rw [numF, if_pos (digB_no e h)] at hn
        cases hn
def codeI (c d e : UInt8) : Int := 10 * (10 * (10 * 0 + ((c.toNat : Int) - 48)) + ((d.toNat : Int) - 48)) + ((e.toNat : Int) - 48)
theorem first_ok (c d e : UInt8) (v : Bs) (hc : dsB c = true) (hd : dgB d = true) (he : dgB e = true) :
    firstL (begB ++ c :: d :: e :: v) = (codeI c d e, decide (v = 32 :: phraseL (codeI c d e)), v.isPrefixOf (32 :: phraseL (codeI c d e) ++ [13])) := by
  have h1 := dsB_dg c hc
  have g1 := digB_dg c h1
  have g2 := digB_dg d hd
  have g3 := digB_dg e he
  have k1 : 50 ≤ c.toNat ∧ c.toNat ≤ 53 := by simpa [dsB] using hc
  have k2 : 48 ≤ d.toNat ∧ d.toNat ≤ 57 := by simpa [dgB] using hd
  have k3 : 48 ≤ e.toNat ∧ e.toNat ≤ 57 := by simpa [dgB] using he
  have hn : numR 10 15 [c, d, e] = some (codeI c d e) := by
    rw [numR, if_neg (by simp), numF, if_neg (by rw [g1]; omega), numF, if_neg (by rw [g2]; omega), numF, if_neg (by rw [g3]; omega), numF, g1, g2, g3]
    congr 1
    unfold codeI; omega
  have hdg : digs 10 (codeI c d e).toNat = [c, d, e] := by
    have := digs3 ⟨c.toNat - 48, by omega⟩ ⟨d.toNat - 48, by omega⟩ ⟨e.toNat - 48, by omega⟩ (by intro h; simp [Fin.ext_iff] at h; omega)
    simp only at this
    rw [show (codeI c d e).toNat = 100 * (c.toNat - 48) + 10 * (d.toNat - 48) + (e.toNat - 48) by unfold codeI; omega, this]
    rw [show 48 + (c.toNat - 48) = c.toNat by omega, show 48 + (d.toNat - 48) = d.toNat by omega, show 48 + (e.toNat - 48) = e.toNat by omega]
    simp
  have hp : begB.isPrefixOf (begB ++ c :: d :: e :: v) = true := by rw [pfx_iff]; exact List.prefix_append _ _
  have hr : 200 ≤ codeI c d e ∧ codeI c d e ≤ 599 := by unfold codeI; omega
  unfold firstL
  rw [if_neg (by simp [begB]), show (begB ++ c :: d :: e :: v).drop 9 = c :: d :: e :: v from rfl, show (c :: d :: e :: v).take 3 = [c, d, e] from rfl, hn]
  simp only [hp, hdg]
  rw [if_neg (by simp; omega)]
  congr 2
  · rw [show begB ++ [c, d, e] ++ [32] ++ phraseL (codeI c d e) = begB ++ (c :: d :: e :: (32 :: phraseL (codeI c d e))) by simp]
    simp
  · rw [show begB ++ [c, d, e] ++ [32] ++ phraseL (codeI c d e) ++ [13] = begB ++ (c :: d :: e :: (32 :: phraseL (codeI c d e) ++ [13])) by simp, pfx_app, pfx_cons, pfx_cons, pfx_cons]
    simp
def okP (s : Bs) : Prop := s.all (fun c => decide (c ≠ 10) && decide (c ≠ 13)) = true
theorem okP_if (c : Prop) [Decidable c] (a b : Bs) (ha : okP a) (hb : okP b) : okP (if c then a else b) := by
  split
  · exact ha
  · exact hb
theorem phrase_no (n : Int) : (10 : UInt8) ∉ 32 :: phraseL n ∧ (13 : UInt8) ∉ 32 :: phraseL n := by
  have h : (phraseL n).all (fun c => decide (c ≠ 10) && decide (c ≠ 13)) = true := by
    have h : okP (phraseL n) := by
      unfold phraseL
      repeat' refine okP_if _ _ _ ?_ ?_
      all_goals (unfold okP; decide)
    exact h
  rw [List.all_eq_true] at h
  constructor <;> intro hm <;> rw [List.mem_cons] at hm <;> rcases hm with hm | hm
  · cases hm
  · have := h _ hm
    simp at this
  · cases hm
  · have := h _ hm
    simp at this
theorem digL_no (i : Nat) (st : Int) (c : UInt8) (r : Bs) (h : dgB c = false) : digL i st (c :: r) = .bad := by rw [digL, h]; rfl
theorem digL_yes (i : Nat) (st : Int) (c : UInt8) (r : Bs) (h : dgB c = true) (hi : i ≠ 0) : digL i st (c :: r) = .ok (10 * st + ((c.toNat : Int) - 48)) r := by rw [digL, h]; simp [hi]
theorem digL_in (st : Int) (c : UInt8) (r : Bs) : digL 0 st (c :: r) = if dsB c then .ok (10 * st + ((c.toNat : Int) - 48)) r else .bad := by
  rw [digL]
  rw [eq_of_beq (byteB (fun c => (dgB c && !(decide (0 = 0) && (decide (c.toNat < 50) || decide (53 < c.toNat)))) == dsB c) (by decide +kernel) c)]

/-- The first line. -/
theorem stat_line (r : Bs) : statusL r = byL (fun s => (firstL s).2.2) (fun s t => if (firstL (s ++ [13])).2.2 && (firstL s).2.1 then .ok (firstL s).1 t else .bad) r := by
  unfold statusL
  rcases text_cases begB r with ⟨u, h1, h2⟩ | ⟨h1, h2, h3⟩ | ⟨h1, h2, h3⟩
  · rw [h2, R3.bind_ok, h1]
    clear h1 h2
    have hb := byL_app (fun s => (firstL s).2.2) (fun s t => if (firstL (s ++ [13])).2.2 && (firstL s).2.1 then R3.ok (firstL s).1 t else .bad) [72, 84, 84, 80, 47, 49, 46, 49] u 32 (by decide) (by decide)
    simp only [show ∀ x : Bs, ([72, 84, 84, 80, 47, 49, 46, 49] : Bs) ++ 32 :: x = begB ++ x from fun x => rfl] at hb
    rw [hb]
    clear hb
    rcases u with _ | ⟨c, u⟩
    · rfl
    · rw [digL_in]
      cases hc : dsB c
      · rw [if_neg (by simp), R3.bind_bad]
        symm
        refine byL_bad (fun _ => first_F1 c u hc) (fun l t e hl => ?_)
        cases l with
        | nil =>
          simp at e
          rw [List.append_nil, show begB ++ [13] = begB ++ 13 :: [] from rfl, first_F1 13 [] (by decide)]; rfl
        | cons d l =>
          simp at e
          rw [List.append_assoc, List.cons_append, first_F1 d _ (by rw [← e.1]; exact hc)]; rfl
      · rw [if_pos rfl, R3.bind_ok]
        have hc0 := dsB_dg c hc
        rcases u with _ | ⟨d, u⟩
        · rw [digL, R3.bind_short, byL_none _ _ _ (line_no [c] (by simpa using fun e => (dg_no c hc0).1 e.symm)), if_pos]
          unfold firstL
          rw [if_pos (by simp [begB]), if_pos (by simp [begB]), show (begB ++ [c]).getD 9 0 = c from rfl, show (begB ++ [c]).drop 9 = [c] from rfl]
          unfold dsB at hc
          rw [hc, show begB.isPrefixOf (begB ++ [c]) = true by rw [pfx_iff]; exact List.prefix_append _ _]
          simp [hc0]
        · cases hd : dgB d
          · rw [digL_no _ _ _ _ hd, R3.bind_bad]
            symm
            refine byL_bad (fun _ => first_F2 c d u hd) (fun l t e hl => ?_)
            rcases l with _ | ⟨x, _ | ⟨y, l⟩⟩
            · simp at e; exact absurd e.1 (dg_no c hc0).2
            · simp at e
              rw [List.append_assoc, show [x] ++ [13] = x :: 13 :: [] from rfl, first_F2 x 13 [] (by decide)]; rfl
            · simp at e
              rw [List.append_assoc, show (x :: y :: l) ++ [13] = x :: y :: (l ++ [13]) from rfl, first_F2 x y _ (by rw [← e.2.1]; exact hd)]; rfl
          · rw [digL_yes _ _ _ _ hd (by decide), R3.bind_ok]
            rcases u with _ | ⟨x, u⟩
            · rw [digL, R3.bind_short, byL_none _ _ _ (line_no [c, d] (by simpa using ⟨fun e => (dg_no c hc0).1 e.symm, fun e => (dg_no d hd).1 e.symm⟩)), if_pos]
              unfold firstL
              rw [if_pos (by simp [begB]), if_pos (by simp [begB]), show (begB ++ [c, d]).getD 9 0 = c from rfl, show (begB ++ [c, d]).drop 9 = [c, d] from rfl]
              unfold dsB at hc
              rw [hc, show begB.isPrefixOf (begB ++ [c, d]) = true by rw [pfx_iff]; exact List.prefix_append _ _]
              simp [hc0, hd]
            · cases hx : dgB x
              · rw [digL_no _ _ _ _ hx, R3.bind_bad]
                symm
                refine byL_bad (fun _ => first_F3 c d x u hx) (fun l t e hl => ?_)
                rcases l with _ | ⟨y, _ | ⟨z, _ | ⟨z', l⟩⟩⟩
                · simp at e; exact absurd e.1 (dg_no c hc0).2
                · simp at e; exact absurd e.2.1 (dg_no d hd).2
                · simp at e
                  rw [List.append_assoc, show [y, z] ++ [13] = y :: z :: 13 :: [] from rfl, first_F3 y z 13 [] (by decide)]; rfl
                · simp at e
                  rw [List.append_assoc, show (y :: z :: z' :: l) ++ [13] = y :: z :: z' :: (l ++ [13]) from rfl, first_F3 y z z' _ (by rw [← e.2.2.1]; exact hx)]; rfl
              · rw [digL_yes _ _ _ _ hx (by decide), R3.bind_ok]
                change (textL (phrL (codeI c d x)) u).bind (fun _ r => R3.ok (codeI c d x) r) = _
                have hph := phrase_no (codeI c d x)
                rw [phrL, ← List.cons_append, text_line _ hph.1 hph.2, byL_bind]
                have hb := byL_app (fun l => (firstL (begB ++ l)).2.2) (fun l t => if (firstL (begB ++ l ++ [13])).2.2 && (firstL (begB ++ l)).2.1 then R3.ok (firstL (begB ++ l)).1 t else .bad) [c, d] u x (dg_no x hx).2 (by simpa using ⟨fun e => (dg_no c hc0).1 e.symm, fun e => (dg_no d hd).1 e.symm, fun e => (dg_no x hx).1 e.symm⟩)
                simp only [show ∀ y : Bs, ([c, d] : Bs) ++ x :: y = c :: d :: x :: y from fun y => rfl] at hb
                rw [hb]
                refine byL_congr (fun _ => ?_) (fun l t e hl => ?_)
                · rw [first_ok c d x u hc hd hx]
                · rw [List.append_assoc, show (c :: d :: x :: l) ++ [13] = c :: d :: x :: (l ++ [13]) from rfl, first_ok c d x _ hc hd hx, first_ok c d x l hc hd hx]
                  simp only [pfx_snoc _ hph.2]
                  by_cases h : l = 32 :: phraseL (codeI c d x) <;> simp [h, R3.bind]
  · rw [h3, R3.bind_short]
    have hno : (10 : UInt8) ∉ r := by
      intro hm
      rw [pfx_iff] at h1
      exact absurd (h1.subset hm) (by decide)
    rw [byL_none _ _ _ (line_no r hno), if_pos]
    have hlen : r.length ≤ 9 := by
      rw [pfx_iff] at h1
      exact h1.length_le
    unfold firstL
    rw [if_pos (by omega), if_neg (by omega), h1]
  · rw [h3, R3.bind_bad]
    symm
    refine byL_bad (fun _ => first_no r h2 h1) (fun l t e hl => ?_)
    rw [first_no (l ++ [13])]
    · rfl
    · rw [Bool.eq_false_iff] at h2 ⊢
      intro h
      apply h2
      rw [pfx_iff] at h ⊢
      exact h.trans ⟨10 :: t, by rw [e]; simp⟩
    · rw [Bool.eq_false_iff]
      intro h
      rw [pfx_iff] at h
      exact absurd (h.subset (show (13 : UInt8) ∈ l ++ [13] by simp)) (by decide)
end Go.Proofs.YtlambdccmfnloaaDoor
