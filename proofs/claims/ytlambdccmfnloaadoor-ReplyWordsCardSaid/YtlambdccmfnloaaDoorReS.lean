/- reply: both readers of heads tell the same (plain): the length, Connection, the first line. -/
import Derived.Test.YtlambdccmfnloaaDoorReR
namespace Go.Proofs.YtlambdccmfnloaaDoor
open Go.RowKit
set_option maxRecDepth 100000
set_option maxHeartbeats 4000000

theorem right_dg (s : Bs) : rightL s = (decide (1 ≤ s.length) && decide (s.length ≤ 15) && s.all dgB && (decide (s = [48]) || decide (s.head? ≠ some 48))) := by
  unfold rightL
  rw [numR_10]
  congr 2
  induction s with
  | nil => rfl
  | cons c s ih => rw [List.all_cons, List.all_cons, dg_dec, ih]
theorem right_no (s : Bs) (c : UInt8) (hm : c ∈ s) (hc : dgB c = false) : rightL s = false := by
  rw [right_dg]
  have : s.all dgB = false := by
    rw [Bool.eq_false_iff]
    intro h
    exact all_no dgB c hc s h hm
  rw [this]; simp
theorem cut_line (p : UInt8 → Bool) (h10 : p 10 = false) : ∀ (s : Bs), s.all p = true → ∀ (c : UInt8) (t' l t : Bs), p c = false → s ++ c :: t' = l ++ 13 :: 10 :: t → p 13 = false → (10 : UInt8) ∉ l →
    (l = s ∧ c = 13) ∨ ∃ w, l = s ++ c :: w
  | [], _, c, t', l, t, hc, e, h13, hl => by
    cases l with
    | nil => simp at e; exact .inl ⟨rfl, e.1⟩
    | cons d l => simp at e; exact .inr ⟨l, by rw [e.1]; rfl⟩
  | d :: s, hs, c, t', l, t, hc, e, h13, hl => by
    simp only [List.all_cons, Bool.and_eq_true] at hs
    cases l with
    | nil =>
      simp at e
      rw [e.1, h13] at hs
      cases hs.1
    | cons d' l =>
      simp at e hl
      obtain ⟨rfl, e⟩ := e
      rcases cut_line p h10 s hs.2 c t' l t hc e h13 hl.2 with ⟨h1, h2⟩ | ⟨w, h1⟩
      · exact .inl ⟨by rw [h1], h2⟩
      · exact .inr ⟨w, by rw [h1]; rfl⟩
theorem numbr_snoc (l : Bs) : numbrL (l ++ [13]) = rightL l := by
  unfold numbrL
  rw [if_pos (by simp)]
  simp
theorem numbr_no (a : Bs) (c : UInt8) (w : Bs) (hc : dgB c = false) (h : c ≠ 13 ∨ w ≠ []) : numbrL (a ++ c :: w) = false := by
  unfold numbrL
  rw [last_app, drop_app]
  split
  · rename_i hl
    refine right_no _ c ?_ hc
    cases w with
    | nil =>
      simp at hl
      rcases h with h | h
      · exact absurd hl h
      · exact absurd rfl h
    | cons d w => simp
  · rw [right_no _ c (by simp) hc]; simp

/-- A length and its end. -/
theorem numb_line (t : Bs) : ((numbL 15 dgB t).bind fun s t => (textL crlf t).bind fun _ t => .ok s t) = byL numbrL (fun l t => if rightL l then .ok l t else .bad) t := by
  cases t with
  | nil => rfl
  | cons c u =>
    rw [numbL]
    by_cases hc : c = 48
    · subst hc
      rw [if_pos rfl, R3.bind_ok]
      have := text_line [] (by simp) (by simp) u
      rw [List.nil_append] at this
      rw [this, byL_bind]
      have hb := byL_app numbrL (fun l t => if rightL l then R3.ok l t else .bad) [] u 48 (by decide) (by decide)
      rw [List.nil_append] at hb
      rw [hb]
      refine byL_congr (fun _ => ?_) (fun l t e hl => ?_)
      · rcases u with _ | ⟨d, _ | ⟨e, u⟩⟩
        · decide
        · by_cases hd : d = 13
          · subst hd; decide
          · unfold numbrL rightL
            simp [pfx_cons, hd]
        · rw [show (d :: e :: u).isPrefixOf ([] ++ [13]) = false by simp [List.isPrefixOf]]
          unfold numbrL rightL
          simp
      · rw [List.nil_append, right_dg]
        cases l with
        | nil => rfl
        | cons d l => simp [R3.bind]
    · rw [if_neg hc]
      generalize hT : (c :: u) = t at *
      have hh : t.head? ≠ some 48 := by rw [← hT]; simpa using hc
      have hne : t ≠ [] := by rw [← hT]; simp
      clear hT hc
      have hv := split_at dgB t
      have ha := take_all dgB t
      have hdr := drop_head dgB t
      generalize t.takeWhile dgB = a at *
      generalize t.dropWhile dgB = b at *
      have hna := all_no dgB 10 (by decide) a ha
      have hl13 := last_all dgB 13 (by decide) a ha
      by_cases ha0 : a = []
      · subst ha0
        rw [List.nil_append] at hv
        subst hv
        cases t with
        | nil => exact absurd rfl hne
        | cons c u =>
          have hc := hdr c u rfl
          rw [show ((c :: u).take 15).takeWhile dgB = [] by rw [List.take_succ_cons, List.takeWhile_cons, hc]; rfl, if_pos rfl, R3.bind_bad]
          symm
          refine byL_bad (fun _ => ?_) (fun l t e hl => ?_)
          · by_cases h : c = 13 ∧ u = []
            · obtain ⟨rfl, rfl⟩ := h; decide
            · exact numbr_no [] c u hc (by rcases Classical.em (c = 13) with h1 | h1
                                           · exact .inr fun h2 => h ⟨h1, h2⟩
                                           · exact .inl h1)
          · rw [if_neg]
            cases l with
            | nil => decide
            | cons d l =>
              simp at e
              rw [right_no _ c (by rw [e.1]; simp) hc]; simp
      · have h1 : 1 ≤ a.length := by cases a with | nil => exact absurd rfl ha0 | cons _ _ => simp
        have hah : a.head? ≠ some 48 := by
          intro e
          apply hh
          rw [hv]
          cases a with
          | nil => exact absurd rfl ha0
          | cons x a => simpa using e
        by_cases h15 : a.length ≤ 15
        · have hs : (t.take 15).takeWhile dgB = a := by
            rw [hv, List.take_append, List.takeWhile_append_of_pos (by intro x hx; rw [List.all_eq_true] at ha; exact ha x (List.mem_of_mem_take hx)), List.take_of_length_le h15]
            cases b with
            | nil => simp
            | cons e b =>
              rw [show (List.takeWhile dgB (List.take (15 - a.length) (e :: b))) = [] by cases (15 - a.length) <;> simp [hdr e b rfl]]
              simp
          have htd : t.drop a.length = b := by rw [hv]; simp
          rw [hs, if_neg ha0, R3.bind_ok, htd]
          have hra : rightL a = true := by rw [right_dg]; simp [h1, h15, ha, hah]
          cases b with
          | nil =>
            rw [List.append_nil] at hv
            subst hv
            rw [byL_none _ _ _ (line_no t hna), numbrL, if_neg hl13, hra]
            simp [crlf, textL, R3.bind]
          | cons e b =>
            have he := hdr e b rfl
            have := text_line [] (by simp) (by simp) (e :: b)
            rw [List.nil_append] at this
            rw [this, byL_bind]
            have hd : ∃ a' d, a = a' ++ [d] := ⟨a.dropLast, a.getLast ha0, (List.dropLast_concat_getLast ha0).symm⟩
            obtain ⟨a', d, hd⟩ := hd
            have hb := byL_app numbrL (fun l t => if rightL l then R3.ok l t else .bad) a' (e :: b) d (by rintro rfl; exact hl13 (by rw [hd]; simp)) (by rw [← hd]; exact hna)
            rw [hv, show a ++ e :: b = a' ++ d :: (e :: b) by rw [hd]; simp, hb]
            refine byL_congr (fun _ => ?_) (fun l t e1 hl => ?_)
            · rw [show a' ++ d :: e :: b = a ++ e :: b by rw [hd]; simp]
              by_cases h : e = 13 ∧ b = []
              · obtain ⟨rfl, rfl⟩ := h
                rw [numbr_snoc, hra]; rfl
              · rw [numbr_no a e b he (by rcases Classical.em (e = 13) with h1 | h1
                                          · exact .inr fun h2 => h ⟨h1, h2⟩
                                          · exact .inl h1), List.nil_append, pfx_cons]
                cases b with
                | nil => simp at h; simp [h]
                | cons x b => simp [List.isPrefixOf]
            · rw [show a' ++ d :: l = a ++ l by rw [hd]; simp]
              cases l with
              | nil => rw [List.append_nil, hra]; rfl
              | cons x l =>
                simp at e1
                rw [right_no (a ++ x :: l) x (by simp) (by rw [← e1.1]; exact he)]
                rfl
        · have hs : (t.take 15).takeWhile dgB = a.take 15 := by
            rw [hv, List.take_append_of_le_length (by omega)]
            have : (a.take 15).all dgB = true := by
              rw [List.all_eq_true] at ha ⊢
              intro x hx
              exact ha x (List.mem_of_mem_take hx)
            exact (take_end dgB _ this).1
          have hne2 : a.take 15 ≠ [] := by
            intro e
            have := congrArg List.length e
            rw [List.length_take, List.length_nil] at this
            omega
          rw [hs, if_neg hne2, R3.bind_ok]
          have hlen : (a.take 15).length = 15 := by rw [List.length_take]; omega
          rw [hlen, hv, List.drop_append_of_le_length (by omega)]
          obtain ⟨x, y, hx⟩ : ∃ x y, a.drop 15 = x :: y := by
            cases h : a.drop 15 with
            | nil => rw [List.drop_eq_nil_iff] at h; omega
            | cons x y => exact ⟨x, y, rfl⟩
          have hxm : x ∈ a := List.mem_of_mem_drop (by rw [hx]; simp)
          have hxd : dgB x = true := by rw [List.all_eq_true] at ha; exact ha x hxm
          rw [hx, List.cons_append, crlf, text_cons, if_neg (dg_no x hxd).2, R3.bind_bad]
          symm
          have hlong : ∀ w, rightL (a ++ w) = false := by
            intro w
            rw [right_dg]
            rw [show decide ((a ++ w).length ≤ 15) = false from decide_eq_false (by rw [List.length_append]; omega)]
            simp
          have hpre : ∀ l : Bs, ∀ t : Bs, a ++ b = l ++ 13 :: 10 :: t → (10 : UInt8) ∉ l → ∃ w, l = a ++ w := by
            intro l t e hl
            rcases List.append_eq_append_iff.1 e with ⟨y, h2, h3⟩ | ⟨y, h2, h3⟩
            · exact ⟨y, h2⟩
            · cases y with
              | nil => exact ⟨[], by rw [h2]; simp⟩
              | cons z y =>
                simp at h3
                exact absurd (by rw [h2, ← h3.1]; simp) (all_no dgB 13 (by decide) a ha)
          refine byL_bad (fun _ => ?_) (fun l t e hl => ?_)
          · unfold numbrL
            split
            · rename_i hlast
              have hb : b ≠ [] := by rintro rfl; rw [List.append_nil] at hlast; exact hl13 hlast
              obtain ⟨z, b', rfl⟩ : ∃ z b', b = z :: b' := by cases b with | nil => exact absurd rfl hb | cons z b' => exact ⟨z, b', rfl⟩
              rw [drop_app]
              exact hlong _
            · rw [hlong]
              simp [ha0]
          · obtain ⟨w, rfl⟩ := hpre l t e hl
            rw [hlong]; rfl

/-- What Connection says, and its end. -/
theorem conn_line {α : Type} (chunked : Bool) (k : Bool → Bs → R3 α) (t : Bs) :
    connT chunked k t =
    byL (fun s => s.isPrefixOf (closeB ++ [13]) || (!chunked && s.isPrefixOf (keepB ++ [13]))) (fun s t => if s = closeB then k true t else if s = keepB ∧ chunked = false then k false t else .bad) t := by
  cases t with
  | nil => rfl
  | cons d u =>
    rw [connT]
    split
    · rename_i h
      obtain ⟨rfl, rfl⟩ := h
      rw [keepL, text_line keepB (by decide) (by decide), byL_bind]
      refine byL_congr (fun _ => ?_) (fun l t e hl => ?_)
      · rw [show (107 :: u).isPrefixOf (closeB ++ [13]) = false from rfl]; simp
      · have h1 : l ≠ closeB := by rintro rfl; simp [closeB] at e
        rw [if_neg h1]
        by_cases h2 : l = keepB <;> simp [h2, R3.bind]
    · rename_i h
      rw [closL, text_line closeB (by decide) (by decide), byL_bind]
      refine byL_congr (fun _ => ?_) (fun l t e hl => ?_)
      · cases hk : chunked
        · have hd : d ≠ 107 := fun e => h ⟨e, hk⟩
          rw [show (d :: u).isPrefixOf (keepB ++ [13]) = false by rw [keepB, List.cons_append, pfx_cons]; simp [hd]]
          simp
        · simp
      · by_cases h1 : l = closeB
        · simp [h1, R3.bind]
        · rw [if_neg h1, if_neg h1, if_neg]
          · rfl
          · rintro ⟨rfl, hk⟩
            simp [keepB] at e
            exact h ⟨e.1, hk⟩
end Go.Proofs.YtlambdccmfnloaaDoor
