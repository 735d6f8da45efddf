/- Bodies in chunks in plain words, on: a body with trailers, written and read. -/
import Derived.Test.YtfapnppgbhlidaaDoorKPl3
namespace Go.Proofs.YtfapnppgbhlidaaDoor
open Go.RowKit
set_option maxRecDepth 100000

def headT (body : Bs) : Bs := encP body ++ [48, 13, 10]
def bodyT (body : Bs) (l : List Fd) : Bs := headT body ++ l.flatMap trlL ++ [13, 10]
theorem headT_enc (body : Bs) : encL [body] = headT body ++ [13, 10] := by simp [encL, headT]
theorem feed_head (body : Bs) (rest : Bs) (hb : body.length ≤ 2048) : ∃ k, cFeed cs0 (headT body ++ rest) = ((headT body).length + (cFeed { cs0 with body := body, left := k, place := 3 } rest).1, (cFeed { cs0 with body := body, left := k, place := 3 } rest).2) := by
  obtain ⟨k, hk, -⟩ := (feed_parts [body] (48 :: 13 :: 10 :: rest) cs0 rfl rfl rfl (by intro p hp; rw [List.mem_singleton] at hp; subst hp; omega)).1 (by simpa [cs0] using hb)
  refine ⟨k, ?_⟩
  have e : headT body ++ rest = [body].flatMap encP ++ (48 :: 13 :: 10 :: rest) := by simp [headT]
  rw [e, hk]
  rw [feed_last _ { cs0 with body := cs0.body ++ [body].flatten, left := k } rfl rfl rfl (by simpa [cs0] using hb)]
  have e2 : cs0.body ++ [body].flatten = body := by simp [cs0]
  rw [e2]
  exact Prod.ext (by simp only [headT, List.length_append, List.length_cons, List.length_nil, List.flatMap_cons, List.flatMap_nil]; omega) rfl
theorem trl_ok (body : Bs) (l : List Fd) (hb : body.length ≤ 2048) (hf : ∀ f ∈ l, isF f = true ∧ f.1.length + f.2.length ≤ 100) (hs : trlS l ≤ 512) (h8 : l.length ≤ 8) :
    ∃ k e, cFeed cs0 (bodyT body l) = ((bodyT body l).length, { cs0 with body := body, left := k, place := 3, trs := l, ends := e, whole := true }) := by
  obtain ⟨k, hk⟩ := feed_head body (l.flatMap trlL ++ [13, 10]) hb
  refine ⟨k, trlS l, ?_⟩
  rw [bodyT, List.append_assoc, hk]
  rw [feed_trailers l [13, 10] { cs0 with body := body, left := k, place := 3 } rfl rfl rfl hf (by simpa [cs0] using hs) (by simpa [cs0] using h8)]
  rw [feed_done [] { cs0 with body := body, left := k, place := 3, trs := cs0.trs ++ l, ends := cs0.ends + trlS l } rfl rfl rfl (by simpa [cs0] using hs)]
  refine Prod.ext ?_ ?_
  · simp only [List.length_append, List.length_cons, List.length_nil, trlS]
  · simp [cs0]
theorem trl_nine (body : Bs) (l : List Fd) (hb : body.length ≤ 2048) (hf : ∀ f ∈ l, isF f = true ∧ f.1.length + f.2.length ≤ 100) (hs : trlS l ≤ 512) (h9 : 8 < l.length) :
    (cFeed cs0 (bodyT body l)).2.whole = false ∧ (cFeed cs0 (bodyT body l)).2.status = 431 ∧ (cFeed cs0 (bodyT body l)).2.trs.length = 8 := by
  obtain ⟨k, hk⟩ := feed_head body (l.flatMap trlL ++ [13, 10]) hb
  rw [bodyT, List.append_assoc, hk]
  exact feed_nine l [13, 10] { cs0 with body := body, left := k, place := 3 } rfl rfl rfl rfl hf (by simpa [cs0] using hs) h9
theorem trlL_len (f : Fd) : (trlL f).length = f.1.length + f.2.length + 4 := by
  rw [trlL]; simp only [List.length_append, List.length_cons, List.length_nil]; omega
theorem trlS_take (l : List Fd) (k : Nat) (f : Fd) (h : l[k]? = some f) : (l.take (k + 1)).flatMap trlL = (l.take k).flatMap trlL ++ trlL f ∧ trlS (l.take (k + 1)) = trlS (l.take k) + (f.1.length + f.2.length + 4) := by
  have hk : k < l.length := (List.getElem?_eq_some_iff.1 h).1
  have e : (l.take (k + 1)).flatMap trlL = (l.take k).flatMap trlL ++ trlL f := by
    rw [List.take_succ_eq_append_getElem hk, List.flatMap_append]
    have : l[k] = f := (List.getElem?_eq_some_iff.1 h).2
    simp [this]
  exact ⟨e, by rw [trlS, e, List.length_append, trlL_len, trlS]⟩
end Go.Proofs.YtfapnppgbhlidaaDoor
