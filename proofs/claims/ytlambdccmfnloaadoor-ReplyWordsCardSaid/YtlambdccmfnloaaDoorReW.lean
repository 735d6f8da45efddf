/- reply: both readers tell the same (plain): all. -/
import Derived.Test.YtlambdccmfnloaaDoorReV
namespace Go.Proofs.YtlambdccmfnloaaDoor
open Go.RowKit
set_option maxRecDepth 100000
set_option maxHeartbeats 4000000

theorem own_cl : ownN clN = true := by decide
theorem own_te : ownN teN = true := by decide
theorem own_co : ownN coN = true := by decide
/-- Two rows of lines that go on alike, from a name on. -/
theorem byL_name {α : Type} {m m' : Bs → Bool} {k k' : Bs → Bs → R3 α} {s t' : Bs} {c : UInt8} (hs : s.all tkB = true) (hc : tkB c = false) (hm : m (s ++ c :: t') = m' (s ++ c :: t'))
    (h0 : ∀ t, c = 13 → k s t = k' s t) (hk : ∀ w t, t.length < t'.length → k (s ++ c :: w) t = k' (s ++ c :: w) t) : byL m k (s ++ c :: t') = byL m' k' (s ++ c :: t') := by
  refine byL_congr (fun _ => hm) (fun l t e hl => ?_)
  rcases cut_line tkB (by decide) s hs c t' l t hc e (by decide) hl with ⟨rfl, h⟩ | ⟨w, rfl⟩
  · exact h0 t h
  · refine hk w t ?_
    have := congrArg List.length e
    simp at this
    omega
theorem line_no1 (st : Int) (fs : List Fd) (l : Bs) (h : mayL (st1 st fs) (l ++ [13]) = false) : (lineL (st1 st fs) l).2 = false := by
  unfold lineL
  rw [h]; rfl
theorem mayF_own (nb : Bool) (nf : Nat) (s : Bs) (c : UInt8) (w : Bs) (h : ownN s = true) : mayF nb nf s c w =
    (if !nb && ((decide (s = clN) && decide (c = 58) && (w.isPrefixOf [32] || (([32] : Bs).isPrefixOf w && numbrL (w.drop 1)))) || (decide (s = teN) && decide (c = 58) && w.isPrefixOf (32 :: (chunkedB ++ [13])))) then true
     else nb && (decide (s = coN) && decide (c = 58) && (w.isPrefixOf (32 :: (closeB ++ [13])) || w.isPrefixOf (32 :: (keepB ++ [13]))))) := by
  unfold mayF
  rw [h]; simp
theorem mayF_c (nb : Bool) (nf : Nat) (s : Bs) (c : UInt8) (w : Bs) (h : c ≠ 58) : mayF nb nf s c w = false := by
  unfold mayF
  simp [h]
theorem mayF_te (nf : Nat) (c : UInt8) (w : Bs) : mayF false nf teN c w = (decide (c = 58) && w.isPrefixOf (32 :: (chunkedB ++ [13]))) := by
  rw [mayF_own _ _ _ _ _ own_te]
  generalize w.isPrefixOf (32 :: (chunkedB ++ [13])) = b1
  cases b1 <;> cases decide (c = 58) <;> simp [show teN ≠ clN by decide]
theorem mayF_cl (nf : Nat) (c : UInt8) (w : Bs) : mayF false nf clN c w = (decide (c = 58) && (w.isPrefixOf [32] || (([32] : Bs).isPrefixOf w && numbrL (w.drop 1)))) := by
  rw [mayF_own _ _ _ _ _ own_cl]
  generalize w.isPrefixOf [32] = b1
  generalize ([32] : Bs).isPrefixOf w = b2
  cases b1 <;> cases b2 <;> cases decide (c = 58) <;> cases numbrL (w.drop 1) <;> simp [show clN ≠ teN by decide]
theorem mayF_co (nf : Nat) (c : UInt8) (w : Bs) : mayF true nf coN c w = (decide (c = 58) && (w.isPrefixOf (32 :: (closeB ++ [13])) || w.isPrefixOf (32 :: (keepB ++ [13])))) := by
  rw [mayF_own _ _ _ _ _ own_co]
  generalize w.isPrefixOf (32 :: (closeB ++ [13])) = b1
  generalize w.isPrefixOf (32 :: (keepB ++ [13])) = b2
  cases b1 <;> cases b2 <;> cases decide (c = 58) <;> simp
theorem app_ne (s : Bs) (c : UInt8) (w T y : Bs) (hs : s.all tkB = true) (hc : tkB c = false) (hT : T.all tkB = true) : (s ++ c :: w = T ++ 58 :: y) ↔ (s = T ∧ c = 58 ∧ w = y) := by
  constructor
  · intro e
    obtain ⟨h1, h2⟩ := take_app tkB c hc w s hs
    obtain ⟨h3, h4⟩ := take_app tkB 58 tk58 y T hT
    rw [e] at h1 h2
    rw [h3] at h1
    rw [h4] at h2
    cases h2
    exact ⟨h1.symm, rfl, rfl⟩
  · rintro ⟨rfl, rfl, rfl⟩; rfl

/-- Behind the fields: in chunks. -/
theorem tail_te (st : Int) (fs : List Fd) (head : Bool) (hnb : noBody st = false) (c : UInt8) (t' : Bs) (hc : tkB c = false) :
    tailL head st fs teN (teN ++ c :: t') = (goW (st1 st fs) (teN ++ c :: t')).bind (bodR head) := by
  unfold tailL
  rw [if_pos rfl, ← List.append_assoc teN chB crlf, show teN ++ chB = teS from rfl, text_line teS (by decide) (by decide), byL_bind, goW_eq, byL_bind]
  refine byL_name tk_te hc ?_ (fun t h13 => ?_) (fun w t ht => ?_)
  · rw [may1 st fs teN c t' tk_te hc (.inl (by decide)), hnb, mayF_te, show teS ++ [13] = teN ++ 58 :: (32 :: (chunkedB ++ [13])) from rfl, (pre_tok teN c t' tk_te hc teN tk_te _).1, decide_eq_true rfl, Bool.true_and]
  · subst h13
    rw [if_neg (by decide), if_neg (by decide), line_no1]
    · rfl
    · rw [may1 st fs teN 13 [] tk_te hc (.inl (by decide)), mayF_c _ _ _ _ _ (by decide)]
  · have hiff := app_ne teN c w teN (32 :: chunkedB) tk_te hc tk_te
    by_cases h : teN ++ c :: w = teS
    · rw [if_pos h, if_neg (by simp [teN]), h]
      have hl : lineL (st1 st fs) teS = ({ st1 st fs with chunked := true, row := 2 }, true) := by
        unfold lineL
        rw [show teS ++ [13] = teN ++ 58 :: (32 :: (chunkedB ++ [13])) from rfl, may1 st fs teN 58 _ tk_te tk58 (.inl (by decide)), hnb, mayF_te]
        rw [show ((32 : UInt8) :: (chunkedB ++ [13])).isPrefixOf (32 :: (chunkedB ++ [13])) = true by decide]
        simp [st1, show clS.isPrefixOf teS = false by decide]
      rw [hl, if_pos rfl, R3.bind_ok, go2 _ rfl rfl]
      congr 1
      funext e t
      unfold bodR
      cases head
      · simp only [Bool.false_eq_true, if_false, if_true]
        rw [chks_same _ (t.length + 1) [] [] t (by omega) (by omega)]
        rfl
      · rfl
    · rw [if_neg h, if_neg (by simp [teN]), line_no1]
      · rfl
      · rw [List.append_assoc, List.cons_append, may1 st fs teN c _ tk_te hc (.inl (by decide)), hnb, mayF_te]
        have h2 : ¬ (c = 58 ∧ w = 32 :: chunkedB) := fun e => h (hiff.2 ⟨rfl, e.1, e.2⟩)
        rw [show (32 : UInt8) :: (chunkedB ++ [13]) = (32 :: chunkedB) ++ [13] from rfl, pfx_snoc _ (by decide)]
        by_cases h3 : c = 58
        · have h4 : ¬ w = 32 :: chunkedB := fun e => h2 ⟨h3, e⟩
          simp [h4]
        · simp [h3]
/-- Behind the fields: with a length. -/
theorem tail_cl (st : Int) (fs : List Fd) (head : Bool) (hnb : noBody st = false) (c : UInt8) (t' : Bs) (hc : tkB c = false) :
    tailL head st fs clN (clN ++ c :: t') = (goW (st1 st fs) (clN ++ c :: t')).bind (bodR head) := by
  have hin : ∀ t, ((numbL 15 dgB t).bind fun s t => (textL crlf t).bind fun _ t => (endsL false t).bind fun e t => if head then R3.ok ((⟨st, fs, [], []⟩ : Rs), e) t else (dataL (decV s) t).bind fun d t => R3.ok (⟨st, fs, d, []⟩, e) t) =
      byL numbrL (fun l t => if rightL l then (endsL false t).bind fun e t => if head then R3.ok ((⟨st, fs, [], []⟩ : Rs), e) t else (dataL (decV l) t).bind fun d t => R3.ok (⟨st, fs, d, []⟩, e) t else .bad) t := by
    intro t
    have h := congrArg (fun x => R3.bind x fun s t => (endsL false t).bind fun e t => if head then R3.ok ((⟨st, fs, [], []⟩ : Rs), e) t else (dataL (decV s) t).bind fun d t => R3.ok (⟨st, fs, d, []⟩, e) t) (numb_line t)
    simp only [R3.bind_bind, R3.bind_ok, byL_bind] at h
    rw [h]
    refine byL_congr (fun _ => rfl) (fun l t e hl => ?_)
    by_cases hr : rightL l <;> simp [hr, R3.bind]
  unfold tailL
  rw [if_neg (by decide), if_pos rfl]
  simp only [hin]
  rw [text_pre _ _ (by decide) (clN ++ csB) (by decide) (by decide), goW_eq, byL_bind]
  rw [show clN ++ csB = clS from rfl]
  refine byL_name tk_cl hc ?_ (fun t h13 => ?_) (fun w t ht => ?_)
  · rw [may1 st fs clN c t' tk_cl hc (.inl (by decide)), hnb, mayF_cl, show (clN ++ c :: t').drop clS.length = t'.drop 1 from rfl]
    rw [show clS = clN ++ 58 :: [32] from rfl, (pre_tok clN c t' tk_cl hc clN tk_cl _).1, (pre_tok clN c t' tk_cl hc clN tk_cl _).2]
    cases decide (c = 58) <;> simp
  · subst h13
    rw [if_neg (by decide), if_neg (by decide), line_no1]
    · rfl
    · rw [may1 st fs clN 13 [] tk_cl hc (.inl (by decide)), mayF_c _ _ _ _ _ (by decide)]
  · rw [if_neg (show clN ++ c :: w ≠ [] by simp [clN])]
    have hp : clS.isPrefixOf (clN ++ c :: w) = (decide (c = 58) && ([32] : Bs).isPrefixOf w) := by
      rw [show clS = clN ++ 58 :: [32] from rfl, (pre_tok clN c w tk_cl hc clN tk_cl _).2]; simp
    have hm : mayL (st1 st fs) (clN ++ c :: w ++ [13]) = (decide (c = 58) && ([32] : Bs).isPrefixOf w && rightL (w.drop 1)) := by
      rw [List.append_assoc, List.cons_append, may1 st fs clN c _ tk_cl hc (.inl (by decide)), hnb, mayF_cl]
      cases w with
      | nil => simp [List.isPrefixOf]
      | cons d w =>
        rw [show (d :: w) ++ [13] = d :: (w ++ [13]) from rfl]
        rw [show (d :: (w ++ [13])).drop 1 = w ++ [13] from rfl, numbr_snoc, show (d :: (w ++ [13])).isPrefixOf [32] = false by cases w <;> simp [List.isPrefixOf], show ([32] : Bs).isPrefixOf (d :: (w ++ [13])) = ([32] : Bs).isPrefixOf (d :: w) by simp [List.isPrefixOf]]
        simp [Bool.and_assoc]
    rw [hp, show (clN ++ c :: w).drop clS.length = w.drop 1 from rfl]
    by_cases h : (decide (c = 58) && ([32] : Bs).isPrefixOf w) = true
    · rw [if_pos h]
      by_cases hr : rightL (w.drop 1) = true
      · have hl : lineL (st1 st fs) (clN ++ c :: w) = ({ st1 st fs with len := decV (w.drop 1), row := 2 }, true) := by
          unfold lineL
          rw [hm, h, hr, hp, h]
          rfl
        rw [if_pos hr, hl, if_pos rfl, go2 _ rfl rfl]
        congr 1
        funext e t
        unfold bodR dataL
        cases head
        · simp only [Bool.false_eq_true, if_false]
          rw [show ({ st1 st fs with len := decV (w.drop 1), row := 2, close := e } : RL).chunked = false from rfl]
          simp only [Bool.false_eq_true, if_false]
          show _ = if t.length < decV (w.drop 1) then R3.short else .ok ((⟨st, fs, t.take (decV (w.drop 1)), []⟩ : Rs), e) (t.drop (decV (w.drop 1)))
          generalize decV (w.drop 1) = k
          by_cases hlt : t.length < k
          · rw [if_pos hlt, if_pos hlt]; rfl
          · rw [if_neg hlt, if_neg hlt]; rfl
        · rfl
      · rw [if_neg hr, line_no1]
        · rfl
        · rw [hm, h]
          simpa using hr
    · rw [if_neg h, line_no1]
      · rfl
      · rw [hm, Bool.eq_false_iff.2 h]; rfl
/-- Behind the fields: without a body. -/
theorem tail_co (st : Int) (fs : List Fd) (head : Bool) (hnb : noBody st = true) (c : UInt8) (t' : Bs) (hc : tkB c = false) :
    tailL head st fs coN (coN ++ c :: t') = (goW (st1 st fs) (coN ++ c :: t')).bind (bodR head) := by
  unfold tailL
  rw [if_neg (by decide), if_neg (by decide), goW_eq, byL_bind]
  have he := ends_con false 67 ([111, 110, 110, 101, 99, 116, 105, 111, 110] ++ c :: t') (by decide)
  rw [show (67 : UInt8) :: ([111, 110, 110, 101, 99, 116, 105, 111, 110] ++ c :: t') = coN ++ c :: t' from rfl] at he
  rw [he, byL_bind]
  have hcm : ∀ w, conM false (coN ++ c :: w) = (decide (c = 58) && (w.isPrefixOf (32 :: (closeB ++ [13])) || w.isPrefixOf (32 :: (keepB ++ [13])))) := by
    intro w
    unfold conM
    rw [show ccS ++ [13] = coN ++ 58 :: (32 :: (closeB ++ [13])) from rfl, (pre_tok coN c w tk_co hc coN tk_co _).1]
    rw [show ckS ++ [13] = coN ++ 58 :: (32 :: (keepB ++ [13])) from rfl, (pre_tok coN c w tk_co hc coN tk_co _).1]
    by_cases h3 : c = 58 <;> simp [h3]
  have hmm : ∀ w, mayL (st1 st fs) (coN ++ c :: w) = conM false (coN ++ c :: w) := by
    intro w
    rw [may1 st fs coN c w tk_co hc (.inl (by decide)), hnb, mayF_co, hcm]
  have hbod : ∀ (e : Bool) (x : RL) (t : Bs), x.st = st → x.f = fs → x.chunked = false → x.len = 0 → x.close = e → bodR head x t = .ok (⟨st, fs, [], []⟩, e) t := by
    rintro e x t rfl rfl h1 h2 rfl
    unfold bodR
    rw [h1, h2]
    cases head <;> simp
  refine byL_name tk_co hc (hmm t').symm (fun t h13 => ?_) (fun w t ht => ?_)
  · subst h13
    rw [if_neg (by decide), if_neg (by decide), if_neg (by decide), line_no1]
    · rfl
    · rw [may1 st fs coN 13 [] tk_co hc (.inl (by decide)), mayF_c _ _ _ _ _ (by decide)]
  · rw [if_neg (show coN ++ c :: w ≠ [] by simp [coN])]
    have hm : mayL (st1 st fs) (coN ++ c :: w ++ [13]) = (decide (coN ++ c :: w = ccS) || decide (coN ++ c :: w = ckS)) := by
      rw [List.append_assoc, List.cons_append, hmm, ← List.cons_append, ← List.append_assoc, con_snoc]; rfl
    by_cases h1 : coN ++ c :: w = ccS
    · rw [if_pos h1, h1]
      have hl : lineL (st1 st fs) ccS = ({ st1 st fs with close := true, row := 3 }, true) := by
        rw [h1] at hm
        unfold lineL
        rw [hm]
        simp [st1, show clS.isPrefixOf ccS = false by decide, show ccS ≠ teS by decide]
      rw [hl, if_pos rfl, go3 _ rfl, R3.bind_bind, R3.bind_bind]
      congr 1
      funext _ t
      rw [R3.bind_ok, R3.bind_ok, hbod true _ t rfl rfl rfl rfl rfl]
    · rw [if_neg h1]
      by_cases h2 : coN ++ c :: w = ckS
      · rw [h2, if_pos ⟨rfl, rfl⟩]
        have hl : lineL (st1 st fs) ckS = ({ st1 st fs with keep := true, row := 3 }, true) := by
          rw [h2] at hm
          unfold lineL
          rw [hm]
          simp [st1, show clS.isPrefixOf ckS = false by decide, show ckS ≠ teS by decide, show ckS ≠ ccS by decide]
        rw [hl, if_pos rfl, go3 _ rfl, R3.bind_bind, R3.bind_bind]
        congr 1
        funext _ t
        rw [R3.bind_ok, R3.bind_ok, hbod false _ t rfl rfl rfl rfl rfl]
      · rw [if_neg (fun e => h2 e.1), line_no1]
        · rfl
        · rw [hm]; simp [h1, h2]

/-- From the fields on. -/
theorem flds_same (st : Int) (head : Bool) : ∀ (n : Nat) (fs : List Fd) (r : Bs), r.length < n →
    ((fldsL (noBody st) n fs r).bind fun x t => tailL head st x.1 x.2 t) = (goW (st1 st fs) r).bind (bodR head)
  | 0, _, _, h => absurd h (by omega)
  | n + 1, fs, r, hn => by
    rw [fldsL]
    by_cases h1 : noBody st = true ∧ r = []
    · rw [if_pos h1, h1.2, goW_eq, byL_none _ _ _ rfl, may_nil _ (show (1 : Int) ≠ 0 by decide)]; rfl
    · rw [if_neg h1]
      by_cases h2 : noBody st = true ∧ r.head? = some 13
      · rw [if_pos h2, R3.bind_ok]
        obtain ⟨hnb, h2⟩ := h2
        rcases r with _ | ⟨c, u⟩
        · simp at h2
        · simp at h2
          subst h2
          have hmd : ∀ d v, mayL (st1 st fs) (13 :: d :: v) = false := by
            intro d v
            unfold mayL st1
            simp only
            rw [if_neg (by decide), hnb, show (13 :: d :: v).isPrefixOf [13] = false by simp [List.isPrefixOf]]
            have hp : partL (13 :: d :: v) = false := by unfold partL; rw [List.dropWhile_cons, show tkB 13 = false by decide]; simp [show tkB 13 = false by decide]
            rw [hp]
            simp [List.isPrefixOf, ccS, ckS, coN]
          rw [go_empty _ (by unfold RL.ends st1; simp [hnb]) (show (1 : Int) ≠ 0 by decide) u hmd]
          unfold tailL
          rw [if_neg (show ([] : Bs) ≠ teN by decide), if_neg (show ([] : Bs) ≠ clN by decide), endsL, if_pos rfl, R3.bind_bind, R3.bind_bind]
          congr 1
          funext _ t
          unfold bodR st1
          cases head <;> simp [R3.bind]
      · rw [if_neg h2]
        have hv := split_at tkB r
        have ha := take_all tkB r
        have hdr := drop_head tkB r
        unfold nameL
        generalize r.takeWhile tkB = s at *
        generalize r.dropWhile tkB = b at *
        cases b with
        | nil =>
          rw [List.append_nil] at hv
          subst hv
          rw [if_pos rfl]
          have hno := all_no tkB 10 (by decide) r ha
          rw [goW_eq, byL_none _ _ _ (line_no r hno)]
          have hm : mayL (st1 st fs) r = !fullL (oursL (noBody st)) fs.length r := by
            cases r with
            | nil =>
              rw [may_nil _ (show (1 : Int) ≠ 0 by decide)]
              unfold fullL oursL
              cases noBody st <;> simp [List.isPrefixOf]
            | cons c u =>
              have hc : tkB c = true := by simp only [List.all_cons, Bool.and_eq_true] at ha; exact ha.1
              unfold mayL fullL st1
              simp only
              rw [if_neg (by decide), show (c :: u).isPrefixOf [13] = false by rw [pfx_cons]; simp [(tk_no c hc).2.1]]
              have hp : partL (c :: u) = true := by unfold partL; rw [(take_end tkB _ ha).2]; simp
              rw [hp]
              by_cases hf : fs.length < 24
              · simp [hf, show ¬ 24 ≤ fs.length by omega]
              · have h24 : decide (24 ≤ fs.length) = true := decide_eq_true (by omega)
                have h23 : decide (fs.length < 24) = false := decide_eq_false hf
                rw [show clS = clN ++ 58 :: [32] from rfl, pfx_all tkB 58 tk58 _ _ _ ha, pfx_long tkB 58 tk58 _ _ _ ha, show teS ++ [13] = teN ++ 58 :: (32 :: (chunkedB ++ [13])) from rfl, pfx_all tkB 58 tk58 _ _ _ ha,
                  show ccS ++ [13] = coN ++ 58 :: (32 :: (closeB ++ [13])) from rfl, pfx_all tkB 58 tk58 _ _ _ ha, show ckS ++ [13] = coN ++ 58 :: (32 :: (keepB ++ [13])) from rfl, pfx_all tkB 58 tk58 _ _ _ ha]
                have hall : (oursL (noBody st)).all (fun o => !(c :: u).isPrefixOf o) = if noBody st then !(c :: u).isPrefixOf coN else !(c :: u).isPrefixOf teN && !(c :: u).isPrefixOf clN := by
                  cases noBody st <;> simp [oursL]
                rw [hall, h24, h23]
                generalize (c :: u).isPrefixOf clN = b1
                generalize (c :: u).isPrefixOf teN = b2
                generalize (c :: u).isPrefixOf coN = b3
                cases noBody st <;> cases b1 <;> cases b2 <;> cases b3 <;> rfl
          rw [hm]
          cases fullL (oursL (noBody st)) fs.length r <;> rfl
        | cons c t' =>
          have hc := hdr c t' rfl
          rw [if_neg (by simp)]
          subst hv
          by_cases ho : (oursL (noBody st)).contains s = true
          · rw [if_pos ho, R3.bind_ok]
            cases hnb : noBody st
            · rw [hnb] at ho
              have : s = teN ∨ s = clN := by simpa [oursL] using ho
              rcases this with rfl | rfl
              · rw [if_pos own_te, R3.bind_ok]
                exact tail_te st fs head hnb c t' hc
              · rw [if_pos own_cl, R3.bind_ok]
                exact tail_cl st fs head hnb c t' hc
            · rw [hnb] at ho
              have : s = coN := by simpa [oursL] using ho
              subst this
              rw [if_pos own_co, R3.bind_ok]
              exact tail_co st fs head hnb c t' hc
          · rw [if_neg ho]
            have hno : (noBody st = false → s ≠ teN ∧ s ≠ clN) ∧ (noBody st = true → s ≠ coN) := by
              constructor <;> intro hnb <;> rw [hnb] at ho <;> simpa [oursL] using ho
            have hmf : ∀ w, mayF (noBody st) fs.length s c w = (decide (fs.length < 24) && (decide (s ≠ []) && decide (c = 58) && !ownN s && partV w)) := by
              intro w
              unfold mayF
              cases hnb : noBody st
              · obtain ⟨g1, g2⟩ := hno.1 hnb
                simp [g1, g2]
              · have g1 := hno.2 hnb
                simp [g1]
            by_cases hbad : (decide (s = []) || ownN s || decide (24 ≤ fs.length)) = true
            · rw [if_pos hbad, R3.bind_bad, R3.bind_bad, goW_eq]
              have hb : ∀ w, mayF (noBody st) fs.length s c w = false := by
                intro w
                rw [hmf]
                simp only [Bool.or_eq_true, decide_eq_true_eq] at hbad
                rcases hbad with (h | h) | h
                · simp [h]
                · simp [h]
                · simp [show ¬ fs.length < 24 by omega]
              by_cases h13 : s = [] ∧ c = 13
              · obtain ⟨rfl, rfl⟩ := h13
                have hnb : noBody st = false := by
                  cases hq : noBody st
                  · rfl
                  · exact absurd ⟨hq, rfl⟩ h2
                rw [List.nil_append]
                have hz : byL (mayL (st1 st fs)) (fun s t => if s = [] then if (st1 st fs).ends = true then R3.ok (st1 st fs) t else R3.bad else if (lineL (st1 st fs) s).2 = true then goW (lineL (st1 st fs) s).1 t else R3.bad) (13 :: t') = .bad := by
                  have hq : ∀ u, mayL (st1 st fs) (13 :: u) = false := by
                    intro u
                    unfold mayL st1
                    simp only
                    rw [if_neg (by decide), hnb]
                    have hp : partL (13 :: u) = false := by unfold partL; rw [List.dropWhile_cons, show tkB 13 = false by decide]; simp [show tkB 13 = false by decide]
                    rw [hp]
                    unfold RL.ends
                    simp [hnb, clS, clN, teS, teN]
                  refine byL_bad (fun _ => hq t') (fun l t e hl => ?_)
                  cases l with
                  | nil => rw [if_pos rfl, if_neg]; unfold RL.ends st1; simp [hnb]
                  | cons d l =>
                    simp at e
                    rw [if_neg (by simp), line_no1]
                    · rfl
                    · rw [List.cons_append, ← e.1]; exact hq _
                rw [hz]; rfl
              · have h0 : s ≠ [] ∨ c ≠ 13 := by
                  rcases Classical.em (s = []) with h | h
                  · exact .inr fun h' => h13 ⟨h, h'⟩
                  · exact .inl h
                have hz : byL (mayL (st1 st fs)) (fun s t => if s = [] then if (st1 st fs).ends = true then R3.ok (st1 st fs) t else R3.bad else if (lineL (st1 st fs) s).2 = true then goW (lineL (st1 st fs) s).1 t else R3.bad) (s ++ c :: t') = byL (fun _ => false) (fun _ _ => .bad) (s ++ c :: t') := by
                  refine byL_name ha hc ?_ (fun t h13 => ?_) (fun w t ht => ?_)
                  · rw [may1 st fs s c t' ha hc h0, hb]
                  · subst h13
                    have hs0 : s ≠ [] := h0.resolve_right (by simp)
                    rw [if_neg hs0, line_no1]
                    · rfl
                    · rw [may1 st fs s 13 [] ha hc h0, hb]
                  · rw [if_neg (by simp), line_no1]
                    · rfl
                    · rw [List.append_assoc, List.cons_append, may1 st fs s c _ ha hc h0, hb]
                rw [hz]
                have := byL_bad (α := RL) (m := fun _ => false) (k := fun _ _ => .bad) (r := s ++ c :: t') (fun _ => rfl) (fun _ _ _ _ => rfl)
                rw [this]; rfl
            · rw [if_neg hbad]
              simp only [Bool.or_eq_true, decide_eq_true_eq, not_or] at hbad
              obtain ⟨⟨hs0, hown⟩, hlt⟩ := hbad
              have hown : ownN s = false := by simpa using hown
              have hmf2 : ∀ w, mayF (noBody st) fs.length s c w = (decide (c = 58) && partV w) := by
                intro w
                rw [hmf, hown]
                simp [hs0, show fs.length < 24 by omega]
              by_cases h58 : c = 58
              · subst h58
                rw [csB, text_cons, if_pos rfl, R3.bind_bind, R3.bind_bind]
                simp only [R3.bind_ok, hown, Bool.false_eq_true, if_false]
                have hin : ∀ (g : Bs → Bs → R3 (Rs × Bool)), ((textL [32] t').bind fun _ t => (valL t).bind g) = byL partV (fun l t => if partV (l ++ [13]) then g (l.drop 1) t else .bad) t' := by
                  intro g
                  have h := congrArg (fun x => R3.bind x g) (val_line t')
                  simp only [R3.bind_bind, byL_bind] at h
                  rw [h]
                  refine byL_congr (fun _ => rfl) (fun l t e hl => ?_)
                  by_cases hr : partV (l ++ [13]) <;> simp [hr, R3.bind]
                have e1 : ((textL [32] t').bind fun _ t => ((valL t).bind fun v t => fldsL (noBody st) n (fs ++ [(s, v)]) t).bind fun x t => tailL head st x.1 x.2 t) = (textL [32] t').bind fun _ t => (valL t).bind fun v t => (fldsL (noBody st) n (fs ++ [(s, v)]) t).bind fun x t => tailL head st x.1 x.2 t := by
                  congr 1
                  funext _ t
                  rw [R3.bind_bind]
                rw [e1, hin, goW_eq, byL_bind, byL_app _ _ s t' 58 (by decide) (by simp only [List.mem_append, List.mem_singleton, not_or]; exact ⟨all_no tkB 10 (by decide) s ha, by decide⟩)]
                refine byL_congr (fun _ => ?_) (fun l t e hl => ?_)
                · rw [may1 st fs s 58 t' ha hc (.inl hs0), hmf2]; simp
                · rw [if_neg (show s ++ 58 :: l ≠ [] by simp)]
                  have hm : mayL (st1 st fs) (s ++ 58 :: l ++ [13]) = partV (l ++ [13]) := by
                    rw [List.append_assoc, List.cons_append, may1 st fs s 58 _ ha hc (.inl hs0), hmf2]; simp
                  by_cases hp : partV (l ++ [13]) = true
                  · rw [if_pos hp]
                    have hne : ∀ T y, T.all tkB = true → ownN T = true → s ++ 58 :: l ≠ T ++ 58 :: y := by
                      intro T y hT hoT e2
                      have := ((app_ne s 58 l T y ha hc hT).1 e2).1
                      rw [this, hoT] at hown
                      cases hown
                    have hfl : fldOf (s ++ 58 :: l) = (s, l.drop 1) := by
                      have h58 : s.all (fun b => decide (b ≠ 58)) = true := by
                        rw [List.all_eq_true] at ha ⊢
                        intro x hx
                        simpa using (tk_no x (ha x hx)).2.2.2
                      obtain ⟨q1, q2⟩ := take_app (fun b => decide (b ≠ 58)) 58 (by decide) l s h58
                      unfold fldOf
                      rw [q1, q2]; rfl
                    have hl2 : lineL (st1 st fs) (s ++ 58 :: l) = (st1 st (fs ++ [(s, l.drop 1)]), true) := by
                      unfold lineL
                      rw [hm, hp, if_neg (by simp), if_neg (show ¬ (st1 st fs).row = 0 from (by decide : ¬ (1 : Int) = 0)), if_neg, if_neg (show s ++ 58 :: l ≠ teS from hne teN (32 :: chunkedB) tk_te own_te), if_neg (show s ++ 58 :: l ≠ ccS from hne coN (32 :: closeB) tk_co own_co), if_neg (show s ++ 58 :: l ≠ ckS from hne coN (32 :: keepB) tk_co own_co), hfl]
                      · rfl
                      · rw [show clS = clN ++ 58 :: [32] from rfl, (pre_tok s 58 l ha hc clN tk_cl _).2]
                        have : s ≠ clN := by rintro rfl; rw [own_cl] at hown; cases hown
                        simp [this]
                    rw [hl2, if_pos rfl]
                    refine flds_same st head n (fs ++ [(s, l.drop 1)]) t ?_
                    have := congrArg List.length e
                    simp at this hn
                    omega
                  · rw [if_neg hp, line_no1]
                    · rfl
                    · rw [hm]; simpa using hp
              · rw [csB, text_cons, if_neg h58, R3.bind_bad, R3.bind_bad, R3.bind_bad, goW_eq]
                have hz : byL (mayL (st1 st fs)) (fun s t => if s = [] then if (st1 st fs).ends = true then R3.ok (st1 st fs) t else R3.bad else if (lineL (st1 st fs) s).2 = true then goW (lineL (st1 st fs) s).1 t else R3.bad) (s ++ c :: t') = byL (fun _ => false) (fun _ _ => .bad) (s ++ c :: t') := by
                  refine byL_name ha hc ?_ (fun t h13 => ?_) (fun w t ht => ?_)
                  · rw [may1 st fs s c t' ha hc (.inl hs0), mayF_c _ _ _ _ _ h58]
                  · rw [if_neg hs0, line_no1]
                    · rfl
                    · rw [h13] at hc
                      rw [may1 st fs s 13 [] ha hc (.inl hs0), mayF_c _ _ _ _ _ (by decide)]
                  · rw [if_neg (by simp), line_no1]
                    · rfl
                    · rw [List.append_assoc, List.cons_append, may1 st fs s c _ ha hc (.inl hs0), mayF_c _ _ _ _ _ h58]
                rw [hz]
                have := byL_bad (α := RL) (m := fun _ => false) (k := fun _ _ => .bad) (r := s ++ c :: t') (fun _ => rfl) (fun _ _ _ _ => rfl)
                rw [this]; rfl
theorem may0 (s : Bs) : mayL rl0 s = (firstL s).2.2 := rfl
/-- Both readers tell the same. -/
theorem whol_same (head : Bool) (r : Bs) : wholL head r = (goW rl0 r).bind (bodR head) := by
  unfold wholL
  rw [stat_line, byL_bind, goW_eq, byL_bind]
  refine byL_congr (fun _ => rfl) (fun l t e hl => ?_)
  by_cases h : l = []
  · subst h
    rw [if_pos rfl, if_neg (by decide), if_neg (by decide)]; rfl
  · rw [if_neg h]
    have hline : lineL rl0 l = if (firstL (l ++ [13])).2.2 then (st1 (firstL l).1 [], (firstL l).2.1) else (rl0, false) := by
      unfold lineL
      rw [may0]
      cases (firstL (l ++ [13])).2.2
      · rfl
      · rfl
    rw [hline]
    by_cases h1 : (firstL (l ++ [13])).2.2 = true
    · by_cases h2 : (firstL l).2.1 = true
      · rw [h1, h2, if_pos rfl, if_pos (show (true && true) = true from rfl), if_pos (show (st1 (firstL l).1 [], true).2 = true from rfl), R3.bind_ok]
        exact flds_same (firstL l).1 head (t.length + 1) [] t (by omega)
      · rw [h1, if_pos rfl, if_neg (by simpa using h2), if_neg (by simpa using h2)]; rfl
    · rw [if_neg (by simpa using fun e => absurd e h1), if_neg h1, if_neg (by simp)]; rfl
theorem read_same (head : Bool) (b : Bs) : readR head b = readL head b := by
  unfold readR readL
  rw [whol_same]; rfl
end Go.Proofs.YtlambdccmfnloaaDoor
