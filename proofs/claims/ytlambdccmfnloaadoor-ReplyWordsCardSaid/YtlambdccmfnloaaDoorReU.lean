/- reply: both readers tell the same (plain). -/
import Derived.Test.YtlambdccmfnloaaDoorReT
namespace Go.Proofs.YtlambdccmfnloaaDoor
open Go.RowKit
set_option maxRecDepth 100000
set_option maxHeartbeats 4000000

theorem line_lt (r s t : Bs) (h : lineOf r = some (s, t)) : t.length < r.length := by
  have := (line_some r s t h).1
  rw [this]; simp; omega
theorem goL_fuel : ∀ (n m : Nat) (x : RL) (r : Bs), r.length < n → r.length < m → goL n x r = goL m x r
  | 0, _, _, _, h, _ => absurd h (by omega)
  | _ + 1, 0, _, _, _, h => absurd h (by omega)
  | n + 1, m + 1, x, r, h1, h2 => by
    rw [goL, goL]
    split
    · rfl
    · rename_i s t hl
      have := line_lt r s t hl
      rw [goL_fuel n m _ t (by omega) (by omega)]
def goW (x : RL) (r : Bs) : R3 RL := goL (r.length + 1) x r
theorem goW_eq (x : RL) (r : Bs) : goW x r = byL (mayL x) (fun s t => if s = [] then (if x.ends then .ok x t else .bad) else if (lineL x s).2 then goW (lineL x s).1 t else .bad) r := by
  unfold goW
  rw [goL, byL]
  cases h : lineOf r with
  | none => rfl
  | some y =>
    obtain ⟨s, t⟩ := y
    have := line_lt r s t h
    simp only
    by_cases hl : s.getLast? = some 13
    · rw [if_neg (by simpa using hl), if_pos hl, goL_fuel r.length (t.length + 1) _ t (by omega) (by omega)]
    · rw [if_pos hl, if_neg hl]

/-- The empty line. -/
theorem go_empty (x : RL) (he : x.ends = true) (h0 : x.row ≠ 0) (u : Bs) (hm : ∀ d v, mayL x (13 :: d :: v) = false) : goW x (13 :: u) = (textL crlf (13 :: u)).bind fun _ t => .ok x t := by
  rw [goW_eq, crlf, text_cons, if_pos rfl]
  rcases u with _ | ⟨d, u⟩
  · rw [byL_none _ _ _ (line_no _ (by decide)), if_pos]
    · rfl
    · unfold mayL
      rw [if_neg h0, if_pos (by decide), he]; rfl
  · rw [text_cons]
    by_cases hd : d = 10
    · subst hd
      rw [if_pos rfl, byL_some _ _ _ [13] u (by rfl)]
      simp [he, textL, R3.bind]
    · rw [if_neg hd, R3.bind_bad]
      refine byL_bad (fun _ => hm d u) (fun l t e hl => ?_)
      rcases l with _ | ⟨y, l⟩
      · simp at e; exact absurd e.1 hd
      · simp at e
        obtain ⟨rfl, e⟩ := e
        rw [if_neg (by simp)]
        have hl2 : ∃ d' v, l ++ [13] = d' :: v := by cases l with
          | nil => exact ⟨13, [], rfl⟩
          | cons a l => exact ⟨a, l ++ [13], rfl⟩
        obtain ⟨d', v, hv⟩ := hl2
        have : (lineL x (13 :: l)).2 = false := by
          unfold lineL
          rw [List.cons_append, hv, hm d' v]; rfl
        rw [this]; rfl
theorem may_nil (x : RL) (h0 : x.row ≠ 0) : mayL x [] = true := by
  unfold mayL
  rw [if_neg h0, if_pos (by decide)]; simp

/-! ## Behind the length -/
theorem may3 (x : RL) (h : x.row = 3) (c : UInt8) (s : Bs) : mayL x (c :: s) = (c :: s).isPrefixOf [13] := by
  unfold mayL RL.ends
  rw [h, if_neg (by decide)]
  generalize (c :: s).isPrefixOf [13] = b
  cases b <;> simp
theorem go3 (x : RL) (h : x.row = 3) (r : Bs) : goW x r = (textL crlf r).bind fun _ t => .ok x t := by
  have he : x.ends = true := by unfold RL.ends; rw [h]; rfl
  rcases r with _ | ⟨c, u⟩
  · rw [goW_eq, byL_none _ _ _ rfl, may_nil x (by omega)]; rfl
  · by_cases hc : c = 13
    · subst hc
      exact go_empty x he (by omega) u fun d v => by rw [may3 x h]; simp [List.isPrefixOf]
    · rw [crlf, text_cons, if_neg hc, R3.bind_bad, goW_eq]
      refine byL_bad (fun _ => ?_) (fun l t e hl => ?_)
      · rw [may3 x h, pfx_cons]; simp [hc]
      · cases l with
        | nil => simp at e; exact absurd e.1 hc
        | cons y l =>
          simp at e
          have : (lineL x (y :: l)).2 = false := by
            unfold lineL
            rw [List.cons_append, may3 x h, pfx_cons]
            simp [← e.1, hc]
          rw [if_neg (by simp), this]; rfl
def conM (chunked : Bool) (s : Bs) : Bool := s.isPrefixOf (ccS ++ [13]) || (!chunked && s.isPrefixOf (ckS ++ [13]))
theorem con_pre (chunked : Bool) (s : Bs) : conM chunked s = (s.isPrefixOf (coN ++ csB) || ((coN ++ csB).isPrefixOf s && ((s.drop (coN ++ csB).length).isPrefixOf (closeB ++ [13]) || (!chunked && (s.drop (coN ++ csB).length).isPrefixOf (keepB ++ [13]))))) := by
  unfold conM ccS ckS
  rw [List.append_assoc (coN ++ csB), List.append_assoc (coN ++ csB), pfx_split, pfx_split (coN ++ csB)]
  cases s.isPrefixOf (coN ++ csB) <;> cases (coN ++ csB).isPrefixOf s <;> cases chunked <;> simp
theorem con_is (T s : Bs) : ((coN ++ csB).isPrefixOf s = true ∧ s.drop (coN ++ csB).length = T) ↔ s = (coN ++ csB) ++ T := by
  constructor
  · rintro ⟨h, rfl⟩
    rw [pfx_iff] at h
    obtain ⟨y, rfl⟩ := h
    simp
  · rintro rfl
    refine ⟨?_, by simp⟩
    rw [pfx_iff]; exact List.prefix_append _ _
theorem con_snoc (chunked : Bool) (s : Bs) : conM chunked (s ++ [13]) = (decide (s = ccS) || (!chunked && decide (s = ckS))) := by
  unfold conM
  rw [pfx_snoc _ (by decide), pfx_snoc _ (by decide)]
/-- What Connection says, as a line. -/
theorem con_line (chunked : Bool) {α : Type} (k : Bool → Bs → R3 α) (r : Bs) : ((textL (coN ++ csB) r).bind fun _ t => connT chunked k t) =
    byL (conM chunked) (fun s t => if s = ccS then k true t else if s = ckS ∧ chunked = false then k false t else .bad) r := by
  simp only [conn_line chunked k]
  rw [text_pre _ _ (by rfl) (coN ++ csB) (by decide) (by decide)]
  refine byL_congr (fun _ => ?_) (fun l t e hl => ?_)
  · rw [con_pre]
  · have h1 := con_is closeB l
    have h2 := con_is keepB l
    rw [← ccS] at h1
    rw [← ckS] at h2
    by_cases hp : (coN ++ csB).isPrefixOf l = true
    · rw [if_pos hp]
      simp only [hp, true_and] at h1 h2
      by_cases g1 : l.drop (coN ++ csB).length = closeB
      · rw [if_pos g1, if_pos (h1.1 g1)]
      · rw [if_neg g1, if_neg (fun e => g1 (h1.2 e))]
        by_cases g2 : l.drop (coN ++ csB).length = keepB
        · by_cases g3 : chunked = false
          · rw [if_pos ⟨g2, g3⟩, if_pos ⟨h2.1 g2, g3⟩]
          · rw [if_neg (fun e => g3 e.2), if_neg (fun e => g3 e.2)]
        · rw [if_neg (fun e => g2 e.1), if_neg (fun e => g2 (h2.2 e.1))]
    · rw [if_neg hp, if_neg (fun e => hp (h1.2 e).1), if_neg (fun e => hp (h2.2 e.1).1)]
theorem may2 (x : RL) (h : x.row = 2) (c : UInt8) (s : Bs) : mayL x (c :: s) = ((c :: s).isPrefixOf [13] || conM x.chunked (c :: s)) := by
  unfold mayL RL.ends
  rw [h, if_neg (by decide)]
  unfold conM
  cases h1 : (c :: s).isPrefixOf [13] <;> simp
theorem may2_line (x : RL) (h : x.row = 2) (s : Bs) (hs : s ≠ []) : mayL x (s ++ [13]) = conM x.chunked (s ++ [13]) := by
  cases s with
  | nil => exact absurd rfl hs
  | cons c s =>
    rw [List.cons_append, may2 x h]
    rw [show (c :: (s ++ [13])).isPrefixOf [13] = false by cases s <;> simp [List.isPrefixOf]]; rfl
theorem line2_no (x : RL) (h : x.row = 2) (s : Bs) (hs : s ≠ []) (h1 : s ≠ ccS) (h2 : ¬ (s = ckS ∧ x.chunked = false)) : (lineL x s).2 = false := by
  have : mayL x (s ++ [13]) = false := by
    rw [may2_line x h s hs, con_snoc]
    simp [h1]
    intro hc e
    exact h2 ⟨e, hc⟩
  unfold lineL
  rw [this]; rfl
theorem line2_cc (x : RL) (h : x.row = 2) : lineL x ccS = ({ x with close := true, row := 3 }, true) := by
  unfold lineL
  rw [may2_line x h _ (by decide), con_snoc, h]
  simp [show clS.isPrefixOf ccS = false by decide, show ccS ≠ teS by decide]
theorem line2_ck (x : RL) (h : x.row = 2) (hc : x.chunked = false) : lineL x ckS = ({ x with keep := true, row := 3 }, true) := by
  unfold lineL
  rw [may2_line x h _ (by decide), con_snoc, h, hc]
  simp [show clS.isPrefixOf ckS = false by decide, show ckS ≠ teS by decide, show ckS ≠ ccS by decide]
theorem ends_con (chunked : Bool) (c : UInt8) (u : Bs) (hc : c ≠ 13) : endsL chunked (c :: u) = byL (conM chunked) (fun s t => if s = ccS then (textL crlf t).bind fun _ t => .ok true t else if s = ckS ∧ chunked = false then (textL crlf t).bind fun _ t => .ok false t else .bad) (c :: u) := by
  rw [endsL, if_neg hc]
  exact con_line chunked (fun b t => (textL crlf t).bind fun _ t => .ok b t) (c :: u)
theorem go2 (x : RL) (h : x.row = 2) (hcl : x.close = false) (head : Bool) (r : Bs) : (goW x r).bind (bodR head) = (endsL x.chunked r).bind fun e t => bodR head { x with close := e } t := by
  have he : x.ends = true := by unfold RL.ends; rw [h]; rfl
  rcases r with _ | ⟨c, u⟩
  · rw [goW_eq, byL_none _ _ _ rfl, may_nil x (by omega)]; rfl
  · by_cases hc : c = 13
    · subst hc
      rw [go_empty x he (by omega) u (fun d v => by rw [may2 x h]; simp [List.isPrefixOf, conM, ccS, ckS, coN]), endsL, if_pos rfl, R3.bind_bind, R3.bind_bind]
      congr 1
      funext a t
      rw [R3.bind_ok, R3.bind_ok, ← hcl]
    · rw [ends_con _ _ _ hc, byL_bind, goW_eq, byL_bind]
      refine byL_congr (fun _ => ?_) (fun l t e hl => ?_)
      · rw [may2 x h, pfx_cons]; simp [hc]
      · have hl0 : l ≠ [] := by rintro rfl; simp at e; exact hc e.1
        rw [if_neg hl0]
        by_cases h1 : l = ccS
        · subst h1
          rw [line2_cc x h, if_pos rfl, if_pos rfl, go3 _ rfl, R3.bind_bind, R3.bind_bind]
          congr 1
        · rw [if_neg h1]
          by_cases h2 : l = ckS ∧ x.chunked = false
          · obtain ⟨rfl, h3⟩ := h2
            rw [line2_ck x h h3, if_pos rfl, go3 _ rfl, R3.bind_bind, if_pos (⟨rfl, h3⟩ : ckS = ckS ∧ x.chunked = false), R3.bind_bind]
            congr 1
            funext a t
            rw [R3.bind_ok, R3.bind_ok, ← hcl]; rfl
          · rw [if_neg h2, line2_no x h l hl0 h1 h2]; rfl
end Go.Proofs.YtlambdccmfnloaaDoor
