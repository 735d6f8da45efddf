/- reply: both readers of heads tell the same (plain): kinds of lines. -/
import Derived.Test.YtlambdccmfnloaaDoorReQ
namespace Go.Proofs.YtlambdccmfnloaaDoor
open Go.RowKit
set_option maxRecDepth 100000
set_option maxHeartbeats 4000000

theorem byteB (p : UInt8 → Bool) (h : ∀ x : Fin 256, p (UInt8.ofNat x.val) = true) (b : UInt8) : p b = true := by
  have := h ⟨b.toNat, b.toNat_lt⟩
  simpa using this
theorem dg_dec (b : UInt8) : decS.contains b = dgB b := by
  have h := byteB (fun b => decS.contains b == dgB b) (by decide +kernel) b
  simpa using h
theorem tk_no (b : UInt8) (h : tkB b = true) : b ≠ 10 ∧ b ≠ 13 ∧ b ≠ 32 ∧ b ≠ 58 := by
  refine ⟨?_, ?_, ?_, ?_⟩ <;> (rintro rfl; revert h; decide)
theorem vl_no (b : UInt8) (h : vlB b = true) : b ≠ 10 ∧ b ≠ 13 := by
  refine ⟨?_, ?_⟩ <;> (rintro rfl; revert h; decide)
theorem hx_no (b : UInt8) (h : hxB b = true) : b ≠ 10 ∧ b ≠ 13 := by
  refine ⟨?_, ?_⟩ <;> (rintro rfl; revert h; decide)
theorem dg_no (b : UInt8) (h : dgB b = true) : b ≠ 10 ∧ b ≠ 13 := by
  refine ⟨?_, ?_⟩ <;> (rintro rfl; revert h; decide)
theorem all_no (p : UInt8 → Bool) (c : UInt8) (hc : p c = false) (s : Bs) (h : s.all p = true) : c ∉ s := by
  intro hm
  rw [List.all_eq_true] at h
  have := h c hm
  rw [hc] at this
  cases this
theorem trimF_fix (v : Bs) : decide (trimF v = v) = (decide (v = []) || (decide (v.head? ≠ some 32) && decide (v.head? ≠ some 9))) := by
  cases v with
  | nil => rfl
  | cons c v =>
    have hb : isB c = (decide (c = 9) || decide (c = 32)) := by
      have h := byteB (fun c => isB c == (decide (c = 9) || decide (c = 32))) (by decide +kernel) c
      simpa using h
    rw [trimF, List.dropWhile_cons]
    cases hc : isB c
    · rw [hb] at hc
      simp at hc
      simp [hc]
    · rw [hb] at hc
      have hl : (v.dropWhile isB) ≠ c :: v := by
        intro e
        have h1 := (List.dropWhile_sublist isB (l := v)).length_le
        rw [e] at h1
        simp at h1
        omega
      simp only [if_true, hl, decide_false]
      simp at hc
      rcases hc with h | h <;> simp [h]
theorem trimL_fixF (v : Bs) (h : trimL v = v) : trimF v = v := by
  have h1 : (trimF v).length ≤ v.length := (List.dropWhile_sublist isB (l := v)).length_le
  have h2 : (trimE (trimF v)).length ≤ (trimF v).length := by
    unfold trimE
    rw [List.length_reverse]
    have := (List.dropWhile_sublist isB (l := (trimF v).reverse)).length_le
    simpa using this
  unfold trimL at h
  rw [h] at h2
  have h3 : (trimF v) <:+ v := List.dropWhile_suffix isB
  exact h3.eq_of_length (by omega)

/-- Some text ahead of a line's rest. -/
theorem text_pre {α : Type} (m : Bs → Bool) (k : Bs → Bs → R3 α) (hm : m [] = true) : ∀ (P : Bs), (10 : UInt8) ∉ P → (13 : UInt8) ∉ P → ∀ r : Bs,
    ((textL P r).bind fun _ t => byL m k t) = byL (fun s => s.isPrefixOf P || (P.isPrefixOf s && m (s.drop P.length))) (fun s t => if P.isPrefixOf s then k (s.drop P.length) t else .bad) r
  | [], _, _, r => by
    rw [textL, R3.bind_ok]
    refine byL_congr (fun _ => ?_) (fun l t e hl => ?_)
    · cases r with
      | nil => rw [hm]; rfl
      | cons c r => simp [List.isPrefixOf]
    · simp [List.isPrefixOf]
  | d :: P, h10, h13, [] => by
    rw [text_none _ (by simp), R3.bind_short]; rfl
  | d :: P, h10, h13, c :: r => by
    simp only [List.mem_cons, not_or] at h10 h13
    rw [text_cons]
    by_cases hc : c = d
    · subst hc
      rw [if_pos rfl, text_pre m k hm P h10.2 h13.2 r]
      have := byL_app (fun s => s.isPrefixOf (c :: P) || ((c :: P).isPrefixOf s && m (s.drop (c :: P).length))) (fun s t => if (c :: P).isPrefixOf s then k (s.drop (c :: P).length) t else .bad) [] r c (fun e => h13.1 e.symm) (by simpa using fun e => h10.1 e)
      rw [List.nil_append] at this
      rw [this]
      refine byL_congr (fun _ => ?_) (fun l t e hl => ?_)
      · simp
      · simp
    · rw [if_neg hc, R3.bind_bad]
      symm
      refine byL_bad (fun _ => ?_) (fun l t e hl => ?_)
      · have hdc : ¬ d = c := fun e => hc e.symm
        rw [pfx_cons, pfx_cons]; simp [hc, hdc]
      · rw [if_neg]
        cases l with
        | nil => simp [List.isPrefixOf]
        | cons e' l =>
          simp at e
          rw [pfx_cons]
          have : d ≠ e' := fun h => hc (by rw [e.1, h])
          simp [this]
theorem pfx_split : ∀ (P Q s : Bs), s.isPrefixOf (P ++ Q) = (s.isPrefixOf P || (P.isPrefixOf s && (s.drop P.length).isPrefixOf Q))
  | [], Q, s => by cases s <;> simp [List.isPrefixOf]
  | d :: P, Q, [] => by simp [List.isPrefixOf]
  | d :: P, Q, c :: s => by
    rw [List.cons_append, pfx_cons, pfx_cons, pfx_cons, pfx_split P Q s]
    by_cases h : c = d
    · subst h; simp
    · have hdc : ¬ d = c := fun e => h e.symm
      simp [h, hdc]

theorem allV_vl (l : Bs) : allV l = l.all vlB := rfl
theorem last_app (a : Bs) (c : UInt8) (t : Bs) : (a ++ c :: t).getLast? = (c :: t).getLast? := by
  rw [List.getLast?_append]
  cases h : (c :: t).getLast? with
  | none => simp at h
  | some d => rfl
theorem drop_app (a : Bs) (c : UInt8) (t : Bs) : (a ++ c :: t).dropLast = a ++ (c :: t).dropLast := List.dropLast_append_of_ne_nil (by simp)
theorem last_all (p : UInt8 → Bool) (c : UInt8) (hc : p c = false) (s : Bs) (h : s.all p = true) : s.getLast? ≠ some c := by
  intro e
  exact all_no p c hc s h (List.mem_of_getLast? e)

theorem partV_13 (w : Bs) : partV (32 :: (w ++ [13])) = (allV w && decide (trimL w = w)) := by
  rw [partV, if_pos rfl, if_pos (by simp), List.dropLast_concat]
theorem partV_not (w : Bs) (h : w.getLast? ≠ some 13) : partV (32 :: w) = (allV w && decide (trimF w = w)) := by
  rw [partV, if_pos rfl, if_neg h, trimF_fix]
theorem allV_no (w : Bs) (c : UInt8) (hm : c ∈ w) (hc : vlB c = false) : allV w = false := by
  rw [allV_vl, Bool.eq_false_iff]
  intro h
  exact all_no vlB c hc w h hm
theorem partV_bad (a : Bs) (c : UInt8) (b : Bs) (hc : vlB c = false) (h : c ≠ 13 ∨ b ≠ []) : partV (32 :: (a ++ c :: b)) = false := by
  by_cases hl : (a ++ c :: b).getLast? = some 13
  · have hs := last_snoc _ _ hl
    rw [hs, partV_13, allV_no _ c _ hc, Bool.false_and]
    rw [drop_app]
    cases b with
    | nil =>
      rw [last_app] at hl
      simp at hl
      rcases h with h | h
      · exact absurd hl h
      · exact absurd rfl h
    | cons d b => simp
  · rw [partV_not _ hl, allV_no _ c (by simp) hc, Bool.false_and]
theorem partV_line (l : Bs) (c : UInt8) (hm : c ∈ l) (hc : vlB c = false) : partV (32 :: (l ++ [13])) = false := by
  rw [partV_13, allV_no l c hm hc, Bool.false_and]

/-- A value and its end. -/
theorem val_line (t : Bs) : ((textL [32] t).bind fun _ t => valL t) = byL partV (fun l t => if partV (l ++ [13]) then .ok (l.drop 1) t else .bad) t := by
  cases t with
  | nil => rfl
  | cons d v =>
    rw [text_cons]
    by_cases hd : d = 32
    · subst hd
      rw [if_pos rfl, textL, R3.bind_ok]
      have hb := byL_app partV (fun l t => if partV (l ++ [13]) then .ok (l.drop 1) t else R3.bad) [] v 32 (by decide) (by decide)
      rw [List.nil_append] at hb
      rw [hb]
      clear hb
      simp only [List.nil_append, List.cons_append, List.drop_succ_cons, List.drop_zero]
      have hv := split_at vlB v
      have ha := take_all vlB v
      have hdr := drop_head vlB v
      unfold valL
      generalize v.takeWhile vlB = a at *
      generalize v.dropWhile vlB = b at *
      have hna := all_no vlB 10 (by decide) a ha
      have hna3 := all_no vlB 13 (by decide) a ha
      have hl3 := last_all vlB 13 (by decide) a ha
      cases b with
      | nil =>
        rw [List.append_nil] at hv
        subst hv
        rw [byL_none _ _ _ (line_no v hna), partV_not v hl3, allV_vl, ha]
        by_cases h : trimF v = v <;> simp [h]
      | cons c b =>
        have hc := hdr c b rfl
        have hbad : (c ≠ 13 ∨ ∃ e b', b = e :: b' ∧ e ≠ 10) → (if trimF a ≠ a then R3.bad else if (c :: b) = [] then .short else if trimL a ≠ a then .bad else (textL crlf (c :: b)).bind fun _ t => R3.ok a t) = R3.bad := by
          intro h
          have h2 : (textL crlf (c :: b)) = .bad := by
            rw [crlf, text_cons]
            by_cases h13 : c = 13
            · rcases h with h | ⟨e, b', rfl, h⟩
              · exact absurd h13 h
              · rw [if_pos h13, text_cons, if_neg h]
            · rw [if_neg h13]
          rw [h2]
          by_cases g1 : trimF a = a
          · by_cases g2 : trimL a = a <;> simp [g1, g2, R3.bind]
          · simp [g1]
        have hpre : ∀ l t, (c ≠ 13 ∨ ∃ e b', b = e :: b' ∧ e ≠ 10) → c ≠ 10 → v = l ++ 13 :: 10 :: t → c ∈ l := by
          intro l t h hc10 e1
          rw [hv] at e1
          rcases List.append_eq_append_iff.1 e1 with ⟨x, h2, h3⟩ | ⟨x, h2, h3⟩
          · cases x with
            | nil =>
              simp at h3
              rcases h with h | ⟨e, b', rfl, h⟩
              · exact absurd h3.1 h
              · simp at h3; exact absurd h3.2.1 h
            | cons y x => simp at h3; rw [h2, ← h3.1]; simp
          · cases x with
            | nil =>
              simp at h3
              rcases h with h | ⟨e, b', rfl, h⟩
              · exact absurd h3.1.symm h
              · simp at h3; exact absurd h3.2.1.symm h
            | cons y x => simp at h3; exact absurd (by rw [h2, ← h3.1]; simp) hna3
        by_cases h1 : c = 13
        · subst h1
          cases b with
          | nil =>
            have hno : (10 : UInt8) ∉ v := by rw [hv]; simp [hna]
            rw [byL_none _ _ _ (line_no v hno), hv, partV_13, allV_vl, ha]
            by_cases h : trimL a = a
            · simp [h, trimL_fixF a h, crlf, textL, R3.bind]
            · simp [h]
          | cons e b =>
            by_cases he : e = 10
            · subst he
              have hl : lineOf v = some (a ++ [13], b) := by
                have := line_app (a ++ [13]) (10 :: b) (by simp [hna])
                rw [hv, show a ++ 13 :: 10 :: b = (a ++ [13]) ++ 10 :: b by simp, this, line_lf]
                simp
              rw [byL_whole _ _ _ _ _ hl, partV_13, allV_vl, ha]
              by_cases h : trimL a = a
              · simp [h, trimL_fixF a h, crlf, textL, R3.bind]
              · simp [h]
            · have hx : (13 : UInt8) ≠ 13 ∨ ∃ e' b', e :: b = e' :: b' ∧ e' ≠ 10 := .inr ⟨e, b, rfl, he⟩
              rw [hbad hx]
              symm
              refine byL_bad (fun _ => ?_) (fun l t e1 hl => ?_)
              · rw [hv]; exact partV_bad a 13 (e :: b) (by decide) (.inr (by simp))
              · rw [partV_line l 13 (hpre l t hx (by decide) e1) (by decide)]; rfl
        · rw [hbad (.inl h1)]
          symm
          refine byL_bad (fun _ => ?_) (fun l t e1 hl => ?_)
          · rw [hv]; exact partV_bad a c b hc (.inl h1)
          · by_cases h10 : c = 10
            · subst h10
              exfalso
              rw [hv] at e1
              rcases List.append_eq_append_iff.1 e1 with ⟨x, h2, h3⟩ | ⟨x, h2, h3⟩
              · cases x with
                | nil => simp at h3
                | cons y x => simp at h3; exact hl (by rw [h2, ← h3.1]; simp)
              · cases x with
                | nil => simp at h3
                | cons y x => simp at h3; exact hna3 (by rw [h2, ← h3.1]; simp)
            · rw [partV_line l c (hpre l t (.inl h1) h10 e1) hc]; rfl
    · rw [if_neg hd, R3.bind_bad]
      symm
      refine byL_bad (fun _ => ?_) (fun l t e hl => ?_)
      · rw [partV, if_neg hd]
      · rw [if_neg]
        cases l with
        | nil => simp [partV]
        | cons e' l =>
          simp at e
          rw [List.cons_append, partV, if_neg (by rw [← e.1]; exact hd)]
          simp
end Go.Proofs.YtlambdccmfnloaaDoor
