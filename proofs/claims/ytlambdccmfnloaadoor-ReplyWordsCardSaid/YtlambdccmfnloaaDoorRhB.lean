/- reply: a whole response that is written is read again (plain). -/
import Derived.Test.YtlambdccmfnloaaDoorRhA
namespace Go.Proofs.YtlambdccmfnloaaDoor
open Go.RowKit
set_option maxRecDepth 100000
set_option maxHeartbeats 4000000

theorem dch_hx (d : Nat) (h : d < 16) : hxB (dch d) = true ∧ (d ≠ 0 → dch d ≠ 48) := by
  have : ∀ e : Fin 16, hxB (dch e.val) = true ∧ (e.val ≠ 0 → dch e.val ≠ 48) := by decide
  exact this ⟨d, h⟩
theorem digs16_hx : ∀ (f u : Nat), u < f → (digs 16 u).all hxB = true
  | 0, u, h => by omega
  | f + 1, u, h => by
    have hm : u % 16 < 16 := Nat.mod_lt _ (by omega)
    rw [digs_step 16 u (by omega)]
    split
    · simp [(dch_hx _ hm).1]
    · rw [List.all_append, digs16_hx f (u / 16) (by omega)]
      simp [(dch_hx _ hm).1]
theorem digs_head (b : Nat) (hb : 2 ≤ b) (hb16 : b ≤ 16) : ∀ (f u : Nat), u < f → 0 < u → (digs b u).head? ≠ some 48
  | 0, u, h, _ => by omega
  | f + 1, u, h, h0 => by
    have hm : u % b < b := Nat.mod_lt _ (by omega)
    rw [digs_step b u hb]
    split
    · rename_i hd
      have hu : u % b = u := Nat.mod_eq_of_lt (by
        rcases Nat.div_eq_zero_iff.mp hd with h1 | h1
        · omega
        · exact h1)
      have := (dch_hx (u % b) (by omega)).2 (by rw [hu]; omega)
      simpa using this
    · rename_i hd
      have hlt : u / b < u := Nat.div_lt_self h0 (by omega)
      have := digs_head b hb hb16 f (u / b) (by omega) (Nat.pos_of_ne_zero hd)
      have hp := digs_pos b hb (u / b)
      rw [List.head?_append]
      cases hh : (digs b (u / b)) with
      | nil => rw [hh] at hp; simp at hp
      | cons x l => rw [hh] at this; simpa using this
theorem digs_zero (b : Nat) (hb : 2 ≤ b) : digs b 0 = [48] := by
  rw [digs_step b 0 hb, if_pos (Nat.zero_div b), Nat.zero_mod]; rfl
theorem hexV_digs (u : Nat) (h : u < 140737488355328) : hexV (digs 16 u) = u := by rw [hexV, back16' u h]; simp
theorem decV_digs (u : Nat) (h : u < 140737488355328) : decV (digs 10 u) = u := by rw [decV, back10 u h]; simp
theorem hx13 : hxB 13 = false := by decide
theorem dg13 : dgB 13 = false := by decide

/-! ## Chunks -/
def offs (n : Nat) : List Bs → List Int
  | [] => []
  | q :: ps => ((n + q.length : Nat) : Int) :: offs (n + q.length) ps
theorem ne48 (q : Bs) (h0 : q ≠ []) : digs 16 q.length ≠ [48] ∧ ∀ u v, u ≠ [] → digs 16 q.length = u ++ v → u ≠ [48] := by
  have hq : 0 < q.length := List.length_pos_iff.mpr h0
  have hh := digs_head 16 (by omega) (by omega) (q.length + 1) q.length (by omega) hq
  refine ⟨by intro h; rw [h] at hh; exact hh rfl, ?_⟩
  rintro u v hu h rfl
  rw [h] at hh; exact hh rfl
theorem eats_chks : ∀ (ps : List Bs) (B : Bs) (P : List Int) (n : Nat), (∀ q ∈ ps, q ≠ [] ∧ q.length < 140737488355328) → (ps = [] → P ≠ []) → ps.length < n →
    Eats (chksL n B P) (encL ps) (B ++ ps.flatten, P ++ offs B.length ps)
  | [], B, P, n, _, hP, hn => by
    obtain ⟨n, rfl⟩ : ∃ m, n = m + 1 := ⟨n - 1, by omega⟩
    have hP' := hP rfl
    refine Eats.congr (g := fun r => (numbL 12 hxB r).bind fun s t =>
      if s = [48] ∧ P = [] then .bad
      else (textL crlf t).bind fun _ t =>
        if s = [48] then (textL crlf t).bind fun _ t => .ok (B, P) t
        else (dataL (hexV s) t).bind fun d t => (textL crlf t).bind fun _ t => chksL n (B ++ d) (P ++ [((B ++ d).length : Int)]) t) (fun r _ => by rw [chksL]) ?_
    have e : encL [] = ([48] : Bs) ++ 13 :: (10 :: crlf) := rfl
    rw [e]
    simp only [List.flatten_nil, List.append_nil, offs]
    refine eats_numb 12 hxB hx13 [48] _ _ _ (by simp) (by decide) (by decide) (.inl rfl) ?_ ?_
    · rw [show (fun t : Bs => (if ([48] : Bs) = [48] ∧ P = [] then R3.bad
      else (textL crlf t).bind fun _ t =>
        if ([48] : Bs) = [48] then (textL crlf t).bind fun _ t => .ok (B, P) t
        else (dataL (hexV [48]) t).bind fun d t => (textL crlf t).bind fun _ t => chksL n (B ++ d) (P ++ [((B ++ d).length : Int)]) t)) = fun t => (textL crlf t).bind fun _ t => (textL crlf t).bind fun _ t => .ok (B, P) t from by
        funext t
        rw [if_neg (by rintro ⟨-, h⟩; exact hP' h)]; rfl]
      exact Eats.bind (eats_text crlf) (Eats.map (eats_text crlf) fun _ => rfl)
    · intro u v hu h
      show (if u = [48] ∧ P = [] then R3.bad else _) = _
      rw [if_neg (by rintro ⟨-, h⟩; exact hP' h)]; rfl
  | q :: ps, B, P, n, hq, hP, hn => by
    obtain ⟨n, rfl⟩ : ∃ m, n = m + 1 := ⟨n - 1, by omega⟩
    obtain ⟨hq0, hql⟩ := hq q List.mem_cons_self
    obtain ⟨h48, h48'⟩ := ne48 q hq0
    rw [List.length_cons] at hn
    have ih := eats_chks ps (B ++ q) (P ++ [((B ++ q).length : Int)]) n (fun p hp => hq p (List.mem_cons_of_mem _ hp)) (fun _ => by simp) (by omega)
    have hres : (B ++ (q :: ps).flatten, P ++ offs B.length (q :: ps)) = (B ++ q ++ ps.flatten, P ++ [((B ++ q).length : Int)] ++ offs (B ++ q).length ps) := by
      simp [offs]
    have e : encL (q :: ps) = digs 16 q.length ++ 13 :: (10 :: (q ++ (crlf ++ encL ps))) := by
      simp [encL, encP, hq0, crlf]
    rw [hres, e]
    refine Eats.congr (g := fun r => (numbL 12 hxB r).bind fun s t =>
      if s = [48] ∧ P = [] then .bad
      else (textL crlf t).bind fun _ t =>
        if s = [48] then (textL crlf t).bind fun _ t => .ok (B, P) t
        else (dataL (hexV s) t).bind fun d t => (textL crlf t).bind fun _ t => chksL n (B ++ d) (P ++ [((B ++ d).length : Int)]) t) (fun r _ => by rw [chksL]) ?_
    refine eats_numb 12 hxB hx13 (digs 16 q.length) _ _ _ (by have := digs_pos 16 (by omega) q.length; intro h; rw [h] at this; simp at this)
      (digs16_hx (q.length + 1) q.length (by omega)) (digs_len' 16 (by omega) 11 q.length (by omega)) (.inr (digs_head 16 (by omega) (by omega) (q.length + 1) q.length (by omega) (List.length_pos_iff.mpr hq0))) ?_ ?_
    · rw [show (fun t : Bs => (if digs 16 q.length = [48] ∧ P = [] then R3.bad
      else (textL crlf t).bind fun _ t =>
        if digs 16 q.length = [48] then (textL crlf t).bind fun _ t => .ok (B, P) t
        else (dataL (hexV (digs 16 q.length)) t).bind fun d t => (textL crlf t).bind fun _ t => chksL n (B ++ d) (P ++ [((B ++ d).length : Int)]) t)) =
          fun t => (textL crlf t).bind fun _ t => (dataL q.length t).bind fun d t => (textL crlf t).bind fun _ t => chksL n (B ++ d) (P ++ [((B ++ d).length : Int)]) t from by
        funext t
        rw [if_neg (by rintro ⟨h, -⟩; exact h48 h)]
        simp only [if_neg h48, hexV_digs q.length hql]]
      exact Eats.bind (eats_text crlf) (Eats.bind (eats_data q) (Eats.bind (eats_text crlf) ih))
    · intro u v hu h
      show (if u = [48] ∧ P = [] then R3.bad else _) = _
      rw [if_neg (by rintro ⟨h, -⟩; exact h48' u v hu ‹_› h)]; rfl
theorem chks_fuel (B : Bs) (P : List Int) (n k : Nat) (r : Bs) (h1 : r.length < n) (h2 : r.length < k) : chksL n B P r = chksL k B P r := by
  rw [chks_same n k B P r h1 h2, chks_same k k B P r h2 h2]
theorem encL_lenR : ∀ ps : List Bs, (∀ q ∈ ps, q ≠ []) → ps.length ≤ (encL ps).length
  | [], _ => by simp
  | q :: ps, h => by
    have ih := encL_lenR ps fun p hp => h p (List.mem_cons_of_mem _ hp)
    have hq := h q List.mem_cons_self
    simp [encL, encP, hq] at ih ⊢
    omega
theorem cut_props (b : Bs) : ∀ (p : List Int) (at_ last : Int), 0 ≤ at_ → at_ ≤ b.length → prtF b.length at_ p = some last →
    (∀ q ∈ cutP b at_ p, q ≠ [] ∧ q.length ≤ b.length) ∧ b.take at_.toNat ++ (cutP b at_ p).flatten = b.take last.toNat ∧ offs at_.toNat (cutP b at_ p) = p ∧ 0 ≤ last ∧ last ≤ b.length ∧ (cutP b at_ p).length = p.length
  | [], at_, last, h0, h1, h => by
    rw [prtF] at h
    cases h
    exact ⟨by simp [cutP], by simp [cutP], rfl, h0, h1, rfl⟩
  | a :: p, at_, last, h0, h1, h => by
    rw [prtF] at h
    split at h
    · cases h
    · rename_i hc
      have ih := cut_props b p a last (by omega) (by omega) h
      have hql : ((b.take a.toNat).drop at_.toNat).length = a.toNat - at_.toNat := by
        rw [List.length_drop, List.length_take]; omega
      refine ⟨?_, ?_, ?_, ih.2.2.2.1, ih.2.2.2.2.1, ?_⟩
      · intro q hq
        rw [cutP, List.mem_cons] at hq
        rcases hq with rfl | hq
        · refine ⟨?_, by rw [hql]; omega⟩
          intro h
          rw [h] at hql
          simp at hql; omega
        · exact ih.1 q hq
      · rw [cutP, List.flatten_cons, ← List.append_assoc]
        have : b.take at_.toNat ++ (b.take a.toNat).drop at_.toNat = b.take a.toNat := by
          conv => rhs; rw [← List.take_append_drop at_.toNat (b.take a.toNat)]
          rw [List.take_take, Nat.min_eq_left (by omega)]
        rw [this]; exact ih.2.1
      · rw [cutP, offs, hql]
        have e : at_.toNat + (a.toNat - at_.toNat) = a.toNat := by omega
        rw [e, ih.2.2.1, Int.toNat_of_nonneg (by omega)]
      · rw [cutP, List.length_cons, ih.2.2.2.2.2, List.length_cons]

/-! ## All of it -/
theorem addL_ok : ∀ (l acc : List Fd) (i : Nat), acc.length ≤ 24 → (addL acc l i).2.2 = 0 → (∀ f ∈ l, isF f = true) ∧ acc.length + l.length ≤ 24
  | [], acc, i, h, _ => ⟨by simp, by simpa using h⟩
  | f :: l, acc, i, h, he => by
    by_cases hf : isF f = true
    · by_cases h24 : 24 ≤ acc.length
      · rw [addL_full acc f l i hf h24] at he; simp at he
      · rw [addL_one acc f l i hf (by omega)] at he
        have := addL_ok l (acc ++ [f]) (i + 1) (by simp; omega) he
        rw [List.length_append, List.length_singleton] at this
        refine ⟨?_, by rw [List.length_cons]; omega⟩
        intro g hg
        rw [List.mem_cons] at hg
        rcases hg with rfl | hg
        · exact hf
        · exact this.1 g hg
    · rw [addL_bad acc f l i (by simpa using hf)] at he; simp at he
theorem one_parts (r : Rs) (h : isOneL r = true) : (200 ≤ r.st ∧ r.st ≤ 599) ∧ (noBody r.st = true → r.b = [] ∧ r.p = []) ∧ FdsOk r.f ∧ r.f.length ≤ 24 ∧
    ∃ last, prtF r.b.length 0 r.p = some last ∧ (r.p ≠ [] → last = r.b.length) := by
  rw [isOneL, Bool.and_eq_true, Bool.and_eq_true, Bool.and_eq_true] at h
  obtain ⟨h1, h2, h3, h4⟩ := h
  simp only [stOk, Bool.not_eq_true', Bool.or_eq_false_iff, Bool.and_eq_false_iff, decide_eq_false_iff_not] at h1
  simp only [fdOk, Bool.not_eq_true', Bool.or_eq_false_iff, decide_eq_false_iff_not, Decidable.not_not] at h2
  obtain ⟨a1, a2⟩ := addL_ok r.f [] 0 (by simp) h2.2
  rw [ownOk, List.all_eq_true] at h3
  have hl : ∃ last, prtF r.b.length 0 r.p = some last ∧ (r.p ≠ [] → last = r.b.length) := by
    unfold prtOk at h4
    split at h4
    · cases h4
    · rename_i last hlast
      refine ⟨last, hlast, fun hp => ?_⟩
      simp only [Bool.or_eq_true, decide_eq_true_eq] at h4
      exact h4.resolve_left hp
  refine ⟨by omega, ?_, ?_, by simpa using a2, hl⟩
  · intro hn
    have hb : r.b = [] := by
      rcases h1.2 with h | h
      · exact List.eq_nil_of_length_eq_zero (by omega)
      · rw [hn] at h; cases h
    refine ⟨hb, ?_⟩
    obtain ⟨last, e1, -⟩ := hl
    cases hp : r.p with
    | nil => rfl
    | cons a p =>
      rw [hp, hb, prtF] at e1
      split at e1
      · cases e1
      · rename_i hc
        simp at hc; omega
  · intro f hf
    exact ⟨a1 f hf, by simpa using h3 f hf⟩
/-- What is read of what was written. -/
def wantR (r : Rs) (head : Bool) (minor : Int) : Rs := ⟨r.st, r.f, if head then [] else r.b, if head then [] else if 0 < minor then r.p else []⟩
theorem rfs_len : ∀ l : List Fd, l.length ≤ (rfsL l).length
  | [] => by simp
  | f :: l => by
    have := rfs_len l
    simp [rfsL, rfL, crlf] at this ⊢
    omega
theorem tk_own : teN.head? ≠ some 13 ∧ clN.head? ≠ some 13 ∧ coN.head? ≠ some 13 := by decide
theorem eats_tail (r : Rs) (head : Bool) (minor : Int) (close : Bool) (h : isOneL r = true) (hs : r.b.length < 140737488355328) :
    ∀ m, 0 < m → Eats (fun t => (fldsL (noBody r.st) m r.f t).bind fun x t => tailL head r.st x.1 x.2 t) (codeR r minor ++ lastR minor close ++ crlf ++ bodyR r head minor) (wantR r head minor, close) := by
  obtain ⟨-, hnb, -, hfl, last, hlast, hlp⟩ := one_parts r h
  intro m hm
  by_cases hn : noBody r.st = true
  · obtain ⟨hb, hp⟩ := hnb hn
    have hw : wantR r head minor = ⟨r.st, r.f, [], []⟩ := by rw [wantR, hb, hp]; simp
    have hbo : codeR r minor ++ lastR minor close ++ crlf ++ bodyR r head minor = lastR minor close ++ crlf := by rw [codeR, if_pos hn, bodyR, hn]; simp
    rw [hbo, hw, hn]
    have he := eats_ends false minor close (by simp)
    by_cases hc : lastR minor close = []
    · rw [hc] at he ⊢
      refine eats_stop _ r.f [10] _ ?_ m hm
      show Eats (fun t => tailL head r.st r.f [] t) crlf _
      have : (fun t : Bs => tailL head r.st r.f [] t) = fun t => (endsL false t).bind fun e t => .ok (⟨r.st, r.f, [], []⟩, e) t := by
        funext t; rw [tailL, if_neg (by decide), if_neg (by decide)]
      rw [this]
      exact Eats.map he fun _ => rfl
    · obtain ⟨w, hw⟩ : ∃ w, lastR minor close ++ crlf = coN ++ 58 :: w := by
        rw [lastR] at hc ⊢
        cases close
        · rw [if_neg (by simp)] at hc ⊢
          by_cases hm1 : minor < 1
          · rw [if_pos hm1]; exact ⟨32 :: (keepB ++ crlf ++ crlf), by simp [ckS, csB]⟩
          · rw [if_neg hm1] at hc; exact absurd rfl hc
        · exact ⟨32 :: (closeB ++ crlf ++ crlf), by simp [ccS, csB]⟩
      rw [hw] at he ⊢
      refine eats_own true _ r.f coN w _ (by decide) tk_co own_co tk_own.2.2 (by decide) ?_ m hm
      have : (fun t : Bs => tailL head r.st r.f coN t) = fun t => (endsL false t).bind fun e t => .ok (⟨r.st, r.f, [], []⟩, e) t := by
        funext t; rw [tailL, if_neg (by decide), if_neg (by decide)]
      show Eats (fun t => tailL head r.st r.f coN t) _ _
      rw [this]
      exact Eats.map he fun _ => rfl
  · have hn' : noBody r.st = false := by simpa using hn
    rw [hn']
    by_cases hch : chunkedR r minor = true
    · have hch' := hch
      rw [chunkedR, Bool.and_eq_true, decide_eq_true_eq, decide_eq_true_eq] at hch'
      have hpne : r.p ≠ [] := by intro h; rw [h] at hch'; simp at hch'
      have he := eats_ends true minor close (fun _ => hch'.2)
      have e : codeR r minor ++ lastR minor close ++ crlf ++ bodyR r head minor = teN ++ 58 :: (32 :: (chunkedB ++ (crlf ++ (lastR minor close ++ crlf ++ bodyR r head minor)))) := by
        rw [codeR, if_neg hn, if_pos hch]; simp [teS, chB, csB]
      have e2 : teN ++ 58 :: (32 :: (chunkedB ++ (crlf ++ (lastR minor close ++ crlf ++ bodyR r head minor)))) = teN ++ (chB ++ crlf) ++ (lastR minor close ++ crlf ++ bodyR r head minor) := by simp [chB, csB]
      rw [e]
      refine eats_own false _ r.f teN _ _ (by decide) tk_te own_te tk_own.1 (by decide) ?_ m hm
      rw [e2]
      have : (fun t : Bs => tailL head r.st r.f teN t) = fun t => (textL (teN ++ (chB ++ crlf)) t).bind fun _ t => (endsL true t).bind fun e t =>
          if head then .ok (⟨r.st, r.f, [], []⟩, e) t else (chksL (t.length + 1) [] [] t).bind fun x t => .ok (⟨r.st, r.f, x.1, x.2⟩, e) t := by
        funext t; rw [tailL, if_pos rfl]
      show Eats (fun t => tailL head r.st r.f teN t) _ _
      rw [this]
      refine Eats.bind (eats_text _) (Eats.bind he ?_)
      cases head
      · have hb : bodyR r false minor = encL (cutP r.b 0 r.p) := by rw [bodyR, hn', hch]; rfl
        have hw : wantR r false minor = ⟨r.st, r.f, r.b, r.p⟩ := by rw [wantR]; simp [hch'.2]
        rw [hb, hw]
        obtain ⟨c1, c2, c3, -, -, c6⟩ := cut_props r.b r.p 0 last (by omega) (by omega) hlast
        have hcl := hlp hpne
        have hcq : ∀ q ∈ cutP r.b 0 r.p, q ≠ [] ∧ q.length < 140737488355328 := fun q hq => ⟨(c1 q hq).1, by have := (c1 q hq).2; omega⟩
        have hflat : (cutP r.b 0 r.p).flatten = r.b := by
          rw [hcl] at c2
          simpa using c2
        have hoff : offs 0 (cutP r.b 0 r.p) = r.p := c3
        have hne : cutP r.b 0 r.p ≠ [] := by intro h; rw [h] at c6; exact hpne (List.eq_nil_of_length_eq_zero c6.symm)
        have E : Eats (fun t => chksL (t.length + 1) [] [] t) (encL (cutP r.b 0 r.p)) (r.b, r.p) := by
          refine Eats.fuel (F := fun n t => chksL n [] [] t) (cutP r.b 0 r.p).length (fun n hn => ?_) (encL_lenR _ fun q hq => (hcq q hq).1) (fun n k t h1 h2 => chks_fuel [] [] n k t h1 h2)
          have := eats_chks (cutP r.b 0 r.p) [] [] n hcq (fun h => absurd h hne) hn
          rw [List.nil_append, List.nil_append, List.length_nil, hflat, hoff] at this
          exact this
        exact Eats.map E fun _ => rfl
      · have hb : bodyR r true minor = [] := by rw [bodyR]; rfl
        rw [hb]
        exact Eats.ok _
    · have hch' : chunkedR r minor = false := by simpa using hch
      have hd : r.b.length < 140737488355328 := hs
      have he := eats_ends false minor close (by simp)
      have e : codeR r minor ++ lastR minor close ++ crlf ++ bodyR r head minor = clN ++ 58 :: (32 :: (digs 10 r.b.length ++ (crlf ++ (lastR minor close ++ crlf ++ bodyR r head minor)))) := by
        rw [codeR, if_neg hn, if_neg hch]; simp [clS, csB]
      have e2 : clN ++ 58 :: (32 :: (digs 10 r.b.length ++ (crlf ++ (lastR minor close ++ crlf ++ bodyR r head minor)))) = clN ++ csB ++ (digs 10 r.b.length ++ 13 :: (10 :: (lastR minor close ++ crlf ++ bodyR r head minor))) := by simp [csB, crlf]
      rw [e]
      refine eats_own false _ r.f clN _ _ (by decide) tk_cl own_cl tk_own.2.1 (by decide) ?_ m hm
      rw [e2]
      have : (fun t : Bs => tailL head r.st r.f clN t) = fun t => (textL (clN ++ csB) t).bind fun _ t => (numbL 15 dgB t).bind fun s t => (textL crlf t).bind fun _ t => (endsL false t).bind fun e t =>
          if head then .ok (⟨r.st, r.f, [], []⟩, e) t else (dataL (decV s) t).bind fun d t => .ok (⟨r.st, r.f, d, []⟩, e) t := by
        funext t; rw [tailL, if_neg (by decide), if_pos rfl]
      show Eats (fun t => tailL head r.st r.f clN t) _ _
      rw [this]
      refine Eats.bind (eats_text _) (eats_numb 15 dgB dg13 _ _ _ _ (by have := digs_pos 10 (by omega) r.b.length; intro h; rw [h] at this; simp at this) ?_ (digs_len' 10 (by omega) 14 r.b.length (by omega)) ?_ ?_ (fun u v hu h => rfl))
      · rw [List.all_eq_true]
        intro c hc
        have := digs_bytes 10 (by omega) (by omega) (r.b.length + 1) r.b.length (by omega) c hc
        rw [dgB]; exact decide_eq_true this
      · by_cases h0 : r.b.length = 0
        · left; rw [h0]; exact digs_zero 10 (by omega)
        · right; exact digs_head 10 (by omega) (by omega) (r.b.length + 1) r.b.length (by omega) (by omega)
      · rw [decV_digs r.b.length hd]
        refine Eats.bind (eats_text crlf) (Eats.bind he ?_)
        cases head
        · have hb : bodyR r false minor = r.b := by rw [bodyR, hn', hch']; rfl
          have hw : wantR r false minor = ⟨r.st, r.f, r.b, []⟩ := by
            have : (if 0 < minor then r.p else []) = [] := by
              rw [chunkedR, Bool.and_eq_false_iff, decide_eq_false_iff_not, decide_eq_false_iff_not] at hch'
              rcases hch' with h | h
              · rw [List.eq_nil_of_length_eq_zero (show r.p.length = 0 by omega)]; simp
              · rw [if_neg h]
            rw [wantR, this]; rfl
          rw [hb, hw]
          exact Eats.map (eats_data r.b) fun _ => rfl
        · have hb : bodyR r true minor = [] := by rw [bodyR]; rfl
          rw [hb]
          exact Eats.ok _
theorem enc_eats (r : Rs) (head : Bool) (minor : Int) (close : Bool) (h : isOneL r = true) (hs : r.b.length < 140737488355328) : Eats (wholL head) (allR r head minor close) (wantR r head minor, close) := by
  obtain ⟨⟨h1, h2⟩, -, hok, hfl, -⟩ := one_parts r h
  have ht := eats_tail r head minor close h hs
  have e : allR r head minor close = startR r.st ++ (rfsL r.f ++ (codeR r minor ++ lastR minor close ++ crlf ++ bodyR r head minor)) := by rw [allR, headR]; simp
  rw [e]
  refine Eats.bind (f := statusL) (g := fun st t => (fldsL (noBody st) (t.length + 1) [] t).bind fun x t => tailL head st x.1 x.2 t) (eats_status r.st h1 h2) ?_
  refine Eats.fuel (F := fun n t => (fldsL (noBody r.st) n [] t).bind fun x t => tailL head r.st x.1 x.2 t) r.f.length (fun n hn => ?_) ?_ (fun n k t a b => ?_)
  · exact eats_flds (noBody r.st) _ _ _ r.f [] n hok (by simpa using hfl) hn ht
  · have := rfs_len r.f
    rw [List.length_append]; omega
  · show (fldsL (noBody r.st) n [] t).bind _ = (fldsL (noBody r.st) k [] t).bind _
    rw [flds_same r.st head n [] t a, flds_same r.st head k [] t b]
/-- What was written is read again, whatever stands behind it. -/
theorem read_enc (r : Rs) (head : Bool) (minor : Int) (close : Bool) (behind : Bs) (h : isOneL r = true) (hs : r.b.length < 140737488355328) :
    readL head (allR r head minor close ++ behind) = (wantR r head minor, close, (allR r head minor close).length, 0) := by
  rw [readL, (enc_eats r head minor close h hs).all behind, readOf]
  simp
/-- A part of it ends too early. -/
theorem read_part (r : Rs) (head : Bool) (minor : Int) (close : Bool) (k : Nat) (h : isOneL r = true) (hs : r.b.length < 140737488355328) (hk : k < (allR r head minor close).length) :
    readL head ((allR r head minor close).take k) = (rs0, false, 0, 12) := by
  have hd : ∃ c t, allR r head minor close = (allR r head minor close).take k ++ c :: t := by
    refine ⟨(allR r head minor close)[k], (allR r head minor close).drop (k + 1), ?_⟩
    rw [← List.drop_eq_getElem_cons hk, List.take_append_drop]
  obtain ⟨c, t, e⟩ := hd
  rw [readL, (enc_eats r head minor close h hs).cut _ c t e, readOf]
end Go.Proofs.YtlambdccmfnloaaDoor
