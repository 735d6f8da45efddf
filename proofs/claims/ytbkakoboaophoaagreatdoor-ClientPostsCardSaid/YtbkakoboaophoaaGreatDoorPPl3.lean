/- A parser in plain words: what the laws feed it. A parser in plain words: whole heads, and bodies with a length. A parser in plain words: the requests that the laws feed it. -/
import Derived.Test.YtbkakoboaophoaaGreatDoorPPl
import Derived.Test.YtbkakoboaophoaaGreatDoorPlain
namespace Go.Proofs.YtbkakoboaophoaaGreatDoor
open Go.RowKit
set_option maxRecDepth 100000

def kn1 : Bs := [71, 69, 84, 32, 47, 32, 72, 84, 84, 80, 47, 49, 46, 48, 13, 10]
def kn2 : Bs := [13, 10, 71, 69, 84]
theorem kn_feed : (pFeed p0 (kn1 ++ kn2)).1 = 18 ∧ (pFeed p0 (kn1 ++ kn2)).2.phase = 3 ∧ (pFeed p0 (kn1 ++ kn2)).2.head.how.close = true ∧ (pFeed p0 (kn1 ++ kn2)).2.head.minor = 0 ∧ (pFeed p0 (kn1 ++ kn2)).2.head.tgt.path = [47] := by decide +kernel
/-- A whole line of the head. -/
theorem pFeed_ln (l r : Bs) (p : PS) (hp : p.phase ≤ 1) (hl : p.line = []) (hc : ∀ c ∈ l, c ≠ 10 ∧ c ≠ 13) (hn : l.length ≤ 256) :
    pFeed p (l ++ 13 :: 10 :: r) = (l.length + 2 + (pFeed (pEnd p (hLine p.head l)) r).1, (pFeed (pEnd p (hLine p.head l)) r).2) := by
  have e0 : ∀ q : PS, q.phase ≤ 1 → q.line = l → q.head = p.head → (∀ h, pEnd { q with phase := 1, line := q.line ++ [13] } h = pEnd p h) → pFeed q (13 :: 10 :: r) = (2 + (pFeed (pEnd p (hLine p.head l)) r).1, (pFeed (pEnd p (hLine p.head l)) r).2) := by
    intro q hq hql hqh hqe
    have e1 : pByte q 13 = { q with phase := 1, line := q.line ++ [13] } := by
      rw [pByte, if_neg (by omega), pHead, if_neg (by decide), if_neg (by simp only [if_pos]; rw [hql]; omega)]
    have e2 : pByte { q with phase := 1, line := q.line ++ [13] } 10 = pEnd p (hLine p.head l) := by
      rw [pByte, if_neg (by simp only; omega), pHead, if_pos rfl, if_pos (by simp), hqe]
      simp only [List.dropLast_concat]
      rw [hql, hqh]
    rw [pFeed_on q 13 _ (by omega), e1, pFeed_on _ 10 _ (by simp only; omega), e2]
    exact Prod.ext (by simp only; omega) rfl
  cases l with
  | nil =>
    have h1 := e0 p hp hl rfl (fun h => rfl)
    rw [List.nil_append, h1]
    simp
  | cons c l =>
    obtain ⟨h1, h2⟩ := hc c (by simp)
    have e : pByte p c = { p with phase := 1, line := [c] } := by
      rw [pByte, if_neg (by omega), pHead, if_neg h1, if_neg h2, if_neg (by rw [hl]; simp), hl, List.nil_append]
    rw [List.cons_append, pFeed_on p c _ (by omega), e, pFeed_line l _ { p with phase := 1, line := [c] } rfl (fun d hd => hc d (by simp [hd])) (by simp only [List.length_cons, List.length_nil] at hn ⊢; omega)]
    have h9 := e0 { p with phase := 1, line := [c] ++ l } (Nat.le_refl 1) rfl rfl (fun h => rfl)
    simp only [List.length_cons] at h9 ⊢
    rw [h9]
    simp only [Prod.mk.injEq, and_true]
    omega
def lg0 : Bs := [71, 69, 84, 32, 47]
def lg1 : Bs := [71, 69, 84, 32, 47, 32, 72, 84, 84, 80, 47, 49, 46, 49, 13, 10, 72, 111, 115, 116, 58, 32, 97, 13, 10, 97, 58]
theorem lg0_feed : (pFeed p0 lg0).1 = 5 ∧ (pFeed p0 lg0).2.phase = 1 ∧ (pFeed p0 lg0).2.line.length = 5 ∧ (pFeed p0 lg0).2.head.begun = false := by decide +kernel
theorem lg1_feed : (pFeed p0 lg1).1 = 27 ∧ (pFeed p0 lg1).2.phase = 1 ∧ (pFeed p0 lg1).2.line.length = 2 ∧ (pFeed p0 lg1).2.head.begun = true := by decide +kernel
def po1 : Bs := [80, 79, 83, 84, 32, 47, 120, 32, 72, 84, 84, 80, 47, 49, 46, 49]
def po2 : Bs := [72, 111, 115, 116, 58, 32, 97]
def poC : Bs := [67, 111, 110, 116, 101, 110, 116, 45, 76, 101, 110, 103, 116, 104, 58, 32]
def poE : Bs := [69, 120, 112, 101, 99, 116, 58, 32, 49, 48, 48, 45, 67, 111, 110, 116, 105, 110, 117, 101]
end Go.Proofs.YtbkakoboaophoaaGreatDoor
namespace Go.Proofs.YtbkakoboaophoaaGreatDoor
open Go.RowKit
set_option maxRecDepth 100000

def okH (h : HS) : Bool := decide (h.status = 0) && !h.whole
/-- Lines, each with its end. -/
def lnsL (ls : List Bs) : Bs := ls.flatMap fun l => l ++ [13, 10]
theorem lnsL_cons (l : Bs) (ls : List Bs) (r : Bs) : lnsL (l :: ls) ++ r = l ++ 13 :: 10 :: (lnsL ls ++ r) := by simp [lnsL]
theorem lnsL_len (l : Bs) (ls : List Bs) : (lnsL (l :: ls)).length = l.length + 2 + (lnsL ls).length := by simp [lnsL]; omega
def okHs : HS → List Bs → Bool
  | _, [] => true
  | h, l :: ls => okH (hLine h l) && okHs (hLine h l) ls
def okLn (l : Bs) : Bool := l.all (fun c => c != 10 && c != 13) && decide (l.length ≤ 256)
theorem okLn_of {l : Bs} (h : okLn l = true) : (∀ c ∈ l, c ≠ 10 ∧ c ≠ 13) ∧ l.length ≤ 256 := by
  unfold okLn at h
  rw [Bool.and_eq_true, decide_eq_true_eq, List.all_eq_true] at h
  exact ⟨fun c hc => by simpa using h.1 c hc, h.2⟩
theorem pEnd_ok (p : PS) (h : HS) (ho : okH h = true) (hl : p.line = []) : pEnd p h = { p with phase := 1, head := h } := by
  unfold okH at ho
  rw [Bool.and_eq_true, decide_eq_true_eq] at ho
  unfold pEnd
  rw [if_neg (by rw [ho.1]; simp), if_neg (by simpa using ho.2)]
  simp only [hl]
theorem pFeed_hd : ∀ (ls : List Bs) (r : Bs) (p : PS), p.phase = 1 → p.line = [] → ls.all okLn = true → okHs p.head ls = true →
    pFeed p (lnsL ls ++ r) = ((lnsL ls).length + (pFeed { p with head := hLines p.head ls } r).1, (pFeed { p with head := hLines p.head ls } r).2)
  | [], r, p, _, _, _, _ => by simp [lnsL, hLines]
  | l :: ls, r, p, hp, hl, ha, ho => by
    rw [List.all_cons, Bool.and_eq_true] at ha
    rw [okHs, Bool.and_eq_true] at ho
    obtain ⟨a1, a2⟩ := okLn_of ha.1
    have he := pEnd_ok p (hLine p.head l) ho.1 hl
    have h9 := pFeed_hd ls r { p with phase := 1, head := hLine p.head l } rfl hl ha.2 ho.2
    rw [lnsL_cons, pFeed_ln l _ p (by omega) hl a1 a2, he, h9, lnsL_len]
    have e2 : ({ { p with phase := 1, head := hLine p.head l } with head := hLines (hLine p.head l) ls } : PS) = { p with head := hLines p.head (l :: ls) } := by
      simp only [hLines, List.foldl_cons, ← hp]
    simp only at e2 ⊢
    rw [e2]
    simp only [Prod.mk.injEq, and_true]
    omega
def okW (h : HS) : Bool := h.whole && decide (h.status = 0)
/-- A whole head. -/
theorem pFeed_req (l0 : Bs) (ls : List Bs) (r : Bs) (ha : (l0 :: ls).all okLn = true) (ho : okHs hs0 (l0 :: ls) = true) (hw : okW (hLine (hLines hs0 (l0 :: ls)) []) = true) :
    pFeed p0 (lnsL (l0 :: ls) ++ 13 :: 10 :: r) = ((lnsL (l0 :: ls)).length + 2 + (pFeed (pFrames { p0 with phase := 1, head := hLine (hLines hs0 (l0 :: ls)) [] }) r).1, (pFeed (pFrames { p0 with phase := 1, head := hLine (hLines hs0 (l0 :: ls)) [] }) r).2) := by
  rw [List.all_cons, Bool.and_eq_true] at ha
  rw [okHs, Bool.and_eq_true] at ho
  obtain ⟨a1, a2⟩ := okLn_of ha.1
  have he := pEnd_ok p0 (hLine hs0 l0) ho.1 rfl
  have h9 := pFeed_hd ls (13 :: 10 :: r) { p0 with phase := 1, head := hLine hs0 l0 } rfl rfl ha.2 ho.2
  have h8 := pFeed_ln [] r { p0 with phase := 1, head := hLines hs0 (l0 :: ls) } (Nat.le_refl 1) rfl (fun c hc => by cases hc) (by simp)
  unfold okW at hw
  rw [Bool.and_eq_true, decide_eq_true_eq] at hw
  have h7 : pEnd { p0 with phase := 1, head := hLines hs0 (l0 :: ls) } (hLine (hLines hs0 (l0 :: ls)) []) = pFrames { p0 with phase := 1, head := hLine (hLines hs0 (l0 :: ls)) [] } := by
    unfold pEnd
    rw [if_neg (by rw [hw.2]; simp), if_pos hw.1]
    rfl
  rw [h7] at h8
  rw [lnsL_cons, pFeed_ln l0 _ p0 (Nat.zero_le _) rfl a1 a2, show p0.head = hs0 from rfl, he, h9, lnsL_len]
  have e2 : ({ { p0 with phase := 1, head := hLine hs0 l0 } with head := hLines (hLine hs0 l0) ls } : PS) = { p0 with phase := 1, head := hLines hs0 (l0 :: ls) } := rfl
  simp only at e2 h8 ⊢
  rw [e2]
  rw [List.nil_append] at h8
  rw [h8]
  simp only [List.length_nil, Prod.mk.injEq, and_true]
  omega
/-- Behind a head with a length. -/
theorem pFrames_len (p : PS) (n : Nat) (hk : p.head.how.kind ≠ 2) (hn : p.head.how.len = (n : Int)) : pFrames p = if n = 0 then { p with phase := 3 } else { p with phase := 2, left := n } := by
  unfold pFrames
  rw [if_neg hk, hn]
  by_cases h : n = 0
  · rw [if_pos h, h]; rfl
  · rw [if_neg h, if_pos (by omega)]; rfl
/-- A body with a length, and what stands behind it. -/
theorem pFeed_bdy (p : PS) (l r : Bs) (hp : p.phase = 2) (hc : p.chunks = none) (hb : p.body = []) (hl : p.left = l.length) (h0 : 0 < l.length) :
    pFeed p (l ++ r) = (l.length, { p with phase := 3, body := l, left := 0, fed := p.fed + l.length }) := by
  have e : pLen p l = { p with phase := 3, body := l, left := 0, fed := p.fed + l.length } := by
    unfold pLen
    rw [if_pos hl, hb, hl, List.nil_append, Nat.sub_self]
  rw [pFeed_len l r p hp hc h0 (by omega), e, pFeed_off _ _ (by show 3 ≤ 3; omega)]
  rfl
end Go.Proofs.YtbkakoboaophoaaGreatDoor
namespace Go.Proofs.YtbkakoboaophoaaGreatDoor
open Go.RowKit
set_option maxRecDepth 100000

/-- What the parser is behind a head with a length. -/
def rqP (h : HS) (n : Nat) : PS := if n = 0 then { p0 with phase := 3, head := h } else { p0 with phase := 2, head := h, left := n }
theorem rqP_of (h : HS) (n : Nat) (hk : h.how.kind ≠ 2) (hn : h.how.len = (n : Int)) : pFrames { p0 with phase := 1, head := h } = rqP h n := by
  rw [pFrames_len _ n hk hn]
  rfl
/-- A request with a length, and what stands behind it. -/
theorem rqP_feed (h : HS) (b r : Bs) : pFeed (rqP h b.length) (b ++ r) = (b.length, { p0 with phase := 3, head := h, body := b, fed := b.length }) := by
  cases b with
  | nil =>
    rw [rqP, List.length_nil, if_pos rfl, List.nil_append, pFeed_off _ _ (by show 3 ≤ 3; omega)]
    rfl
  | cons c l =>
    rw [rqP, if_neg (by simp), pFeed_bdy _ (c :: l) r rfl rfl rfl rfl (by simp)]
    simp [p0]
/-- All but the last byte. -/
theorem rqP_most (h : HS) (b : Bs) (n : Nat) (hn : b.length + 1 = n) : pFeed (rqP h n) b = (b.length, { rqP h n with body := b, left := 1, fed := b.length }) := by
  rw [rqP, if_neg (by omega)]
  cases b with
  | nil =>
    simp only [List.length_nil] at hn
    rw [pFeed_nil, ← hn]
    rfl
  | cons c l =>
    have h9 := pFeed_len (c :: l) [] { p0 with phase := 2, head := h, left := n } rfl rfl (by simp) (by show (c :: l).length ≤ n; omega)
    rw [List.append_nil, pFeed_nil] at h9
    rw [h9]
    unfold pLen
    rw [if_neg (by show ¬ n = (c :: l).length; omega)]
    simp only [Prod.mk.injEq, Nat.add_zero, true_and, PS.mk.injEq, p0, List.nil_append, Nat.zero_add, and_true]
    omega
/-- A head that tells a length of n. -/
structure LenH (ls : List Bs) (h : HS) (n : Nat) : Prop where
  feed : ∀ r, pFeed p0 (lnsL ls ++ 13 :: 10 :: r) = ((lnsL ls).length + 2 + (pFeed (rqP h n) r).1, (pFeed (rqP h n) r).2)
def lenB (l0 : Bs) (ls : List Bs) (n : Nat) : Bool :=
  (l0 :: ls).all okLn && okHs hs0 (l0 :: ls) && okW (hLine (hLines hs0 (l0 :: ls)) []) && !decide ((hLine (hLines hs0 (l0 :: ls)) []).how.kind = 2) && decide ((hLine (hLines hs0 (l0 :: ls)) []).how.len = (n : Int))
theorem lenH_of (l0 : Bs) (ls : List Bs) (n : Nat) (h : lenB l0 ls n = true) : LenH (l0 :: ls) (hLine (hLines hs0 (l0 :: ls)) []) n := by
  unfold lenB at h
  simp only [Bool.and_eq_true, decide_eq_true_eq, Bool.not_eq_true', decide_eq_false_iff_not] at h
  obtain ⟨⟨⟨⟨h1, h2⟩, h3⟩, h4⟩, h5⟩ := h
  refine ⟨fun r => ?_⟩
  rw [pFeed_req l0 ls r h1 h2 h3, rqP_of _ n h4 h5]

/-! ### ParseBody -/
def pbLs (n : Nat) (e : Bool) : List Bs := [po2, poC ++ digs 10 n] ++ if e then [poE] else []
def pbH (n : Nat) (e : Bool) : HS := hLine (hLines hs0 (po1 :: pbLs n e)) []
def pbB (n : Nat) (e : Bool) : Bool := lenB po1 (pbLs n e) n && !(pbH n e).how.close && ((pbH n e).how.expect == (e && decide (0 < n))) && decide ((pbH n e).method = [80, 79, 83, 84]) && decide ((pbH n e).tgt.path = [47, 120])
theorem pbB_all : (List.range 1501).all (fun n => pbB n true && pbB n false) = true := by decide +kernel
theorem pb_of (n : Nat) (e : Bool) (hn : n ≤ 1500) : LenH (po1 :: pbLs n e) (pbH n e) n ∧ (pbH n e).how.close = false ∧ (pbH n e).how.expect = (e && decide (0 < n)) ∧ (pbH n e).method = [80, 79, 83, 84] ∧ (pbH n e).tgt.path = [47, 120] := by
  have h1 := (List.all_eq_true.1 pbB_all) n (List.mem_range.2 (by omega))
  rw [Bool.and_eq_true] at h1
  have h2 : pbB n e = true := by cases e; exact h1.2; exact h1.1
  unfold pbB at h2
  simp only [Bool.and_eq_true, decide_eq_true_eq, Bool.not_eq_true', beq_iff_eq] at h2
  obtain ⟨⟨⟨⟨h2, h3⟩, h4⟩, h5⟩, h6⟩ := h2
  exact ⟨lenH_of _ _ _ h2, h3, h4, h5, h6⟩

/-! ### ParseLengthIsOne -/
def pl1 : Bs := [80, 79, 83, 84, 32, 47, 32, 72, 84, 84, 80, 47, 49, 46, 49]
def plLs (n : Nat) : List Bs := [po2, poC ++ digs 10 n]
def plH (n : Nat) : HS := hLine (hLines hs0 (pl1 :: plLs n)) []
theorem plB_all : (List.range 1001).all (fun n => lenB pl1 (plLs n) n) = true := by decide +kernel
theorem pl_of (n : Nat) (hn : n ≤ 1000) : LenH (pl1 :: plLs n) (plH n) n :=
  lenH_of _ _ _ ((List.all_eq_true.1 plB_all) n (List.mem_range.2 (by omega)))
/-- "GET /z HTTP/1.0", and an empty line. -/
def plZ : Bs := [71, 69, 84, 32, 47, 122, 32, 72, 84, 84, 80, 47, 49, 46, 48, 13, 10, 13, 10]
theorem plZ_feed : (pFeed p0 plZ).1 = 19 ∧ (pFeed p0 plZ).2.phase = 3 ∧ (pFeed p0 plZ).2.head.tgt.path = [47, 122] := by decide +kernel

/-! ### ClientPosts -/
def cp1 : Bs := [80, 79, 83, 84, 32, 47, 101, 99, 104, 111, 32, 72, 84, 84, 80, 47, 49, 46, 49]
def cp2 : Bs := [72, 111, 115, 116, 58, 32, 117, 115, 104, 101, 114]
def cp4 : Bs := [88, 58, 32, 121]
def cpLs (n : Nat) : List Bs := [cp2, poC ++ digs 10 n, cp4]
def cpH (n : Nat) : HS := hLine (hLines hs0 (cp1 :: cpLs n)) []
def cpB (n : Nat) : Bool := lenB cp1 (cpLs n) n && decide ((cpH n).method = [80, 79, 83, 84]) && decide ((cpH n).flds.length = 3) && decide ((cpH n).flds[2]? = some ([88], [121]))
theorem cpB_all : (List.range 1501).all cpB = true := by decide +kernel
theorem cp_of (n : Nat) (hn : n ≤ 1500) : LenH (cp1 :: cpLs n) (cpH n) n ∧ (cpH n).method = [80, 79, 83, 84] ∧ (cpH n).flds.length = 3 ∧ (cpH n).flds[2]? = some ([88], [121]) := by
  have h2 := (List.all_eq_true.1 cpB_all) n (List.mem_range.2 (by omega))
  unfold cpB at h2
  simp only [Bool.and_eq_true, decide_eq_true_eq] at h2
  obtain ⟨⟨⟨h2, h3⟩, h4⟩, h5⟩ := h2
  exact ⟨lenH_of _ _ _ h2, h3, h4, h5⟩
end Go.Proofs.YtbkakoboaophoaaGreatDoor
