/- Framing in plain words, on: rows of hosts, of words, of lengths. -/
import Derived.Test.YtfpojnijjpojlaaGreatDoorFPl
import Derived.Test.YtfpojnijjpojlaaGreatDoorNum
import Derived.Test.YtfpojnijjpojlaaGreatDoorTgt3
namespace Go.Proofs.YtfpojnijjpojlaaGreatDoor
open Go.RowKit
set_option maxRecDepth 100000
set_option maxHeartbeats 2000000

theorem addL_all : ∀ (l acc : List Fd) (i : Nat), (∀ f ∈ l, isF f = true) → acc.length + l.length ≤ 24 → (addL acc l i).1 = acc ++ l
  | [], acc, i, _, _ => by simp [addL]
  | f :: l, acc, i, h, h2 => by
    rw [List.length_cons] at h2
    rw [addL_one _ _ _ _ (h f (by simp)) (by omega), addL_all l (acc ++ [f]) (i + 1) (fun x hx => h x (by simp [hx])) (by simp; omega)]
    simp
theorem valsL_all (n : Bs) (l : List Fd) (h : ∀ x ∈ l, nmEq x.1 n = true) : valsL n l = l.map (·.2) := by
  rw [valsL, List.filter_eq_self.2 h]
theorem valsL_non (n : Bs) (l : List Fd) (h : ∀ x ∈ l, nmEq x.1 n = false) : valsL n l = [] := by
  rw [valsL, List.filter_eq_nil_iff.2]
  · rfl
  · intro x hx; rw [h x hx]; simp

/-! ### Hosts -/
def hstA : List Bs := [[97], [65, 46, 98, 58, 56, 48], [], [97, 32, 98], [97, 58], [97, 47]]
def hostF (k : Nat) : Fd := ([104, 79, 83, 84], hstA.getD k [])
theorem hostF_ok : ∀ k : Fin 6, isF (hostF k.val) = true := by decide +kernel
def badH (first : Bool) (ks : List Nat) : Bool := decide (1 < ks.length) || !ks.all (· < 3) || (decide (ks.length = 0) && first)
theorem frm_hosts (first : Bool) (ks : List Nat) (hk : ∀ k ∈ ks, k < 6) : frmL first (ks.map hostF) = if badH first ks then (how0, 400) else (⟨0, 0, !first, false⟩, 0) := by
  have e1 : valsL hostN (ks.map hostF) = ks.map (fun k => hstA.getD k []) := by
    rw [valsL_all, List.map_map]
    · rfl
    · intro x hx; obtain ⟨k, -, rfl⟩ := List.mem_map.1 hx; exact (by decide +kernel : nmEq [104, 79, 83, 84] hostN = true)
  have e2 : ∀ n : Bs, nmEq [104, 79, 83, 84] n = false → valsL n (ks.map hostF) = [] := by
    intro n hn
    refine valsL_non n _ fun x hx => ?_
    obtain ⟨k, -, rfl⟩ := List.mem_map.1 hx
    exact hn
  have r1 : restL first 0 0 (ks.map hostF) = (⟨0, 0, !first, false⟩, 0) := by
    rw [restL, e2 coN (by decide +kernel), e2 exN (by decide +kernel), toksL_nil]
    cases first <;> rfl
  rw [frmL, e1, e2 teN (by decide +kernel), e2 clN (by decide +kernel), show bodyL first [] [] = (0, 0, 0) from rfl]
  show (if hostOk first (ks.map fun k => hstA.getD k []) = true then restL first 0 0 (ks.map hostF) else (how0, 400)) = _
  rw [r1]
  rcases ks with _ | ⟨k, _ | ⟨k2, r⟩⟩
  · cases first <;> rfl
  · have hk6 := hk k (by simp)
    have : ∀ f : Bool, ∀ k : Fin 6, hostOk f [hstA.getD k.val []] = !badH f [k.val] := by decide +kernel
    rw [List.map_cons, List.map_nil, this first ⟨k, hk6⟩]
    cases badH first [k] <;> rfl
  · have : badH first (k :: k2 :: r) = true := by simp [badH]
    rw [this, List.map_cons, List.map_cons]
    rfl

/-! ### Words of Connection -/
def clsA : List Bs := [closeB, [67, 76, 79, 83, 69], keepB, [75, 101, 101, 112, 45, 65, 108, 105, 118, 101], [120], []]
def conF (k : Nat) : Fd := (coN, clsA.getD k [])
def hostAF : Fd := (hostN, [97])
theorem conF_ok : ∀ k : Fin 6, isF (conF k.val) = true := by decide +kernel
theorem hostAF_ok : isF hostAF = true := by decide +kernel
def tkOf (k : Nat) : List Bs := if k < 2 then [closeB] else if k < 4 then [keepB] else if k = 4 then [[120]] else []
theorem tk_one (acc : List Bs) (k : Nat) (hk : k < 6) : (splitL 44 (clsA.getD k [])).foldl tokF (some acc) = some (acc ++ tkOf k) := by
  have h1 : ∀ k : Fin 6, splitL 44 (clsA.getD k.val []) = [clsA.getD k.val []] := by decide +kernel
  have h2 : ∀ k : Fin 6, (trimL (clsA.getD k.val []) = [] ∧ tkOf k.val = []) ∨ (trimL (clsA.getD k.val []) ≠ [] ∧ tkL (trimL (clsA.getD k.val [])) = true ∧ [lowL (trimL (clsA.getD k.val []))] = tkOf k.val) := by decide +kernel
  rw [h1 ⟨k, hk⟩, List.foldl_cons, List.foldl_nil]
  rcases h2 ⟨k, hk⟩ with ⟨h, h3⟩ | ⟨h, h3, h4⟩
  · rw [tokF_skip _ _ h, h3, List.append_nil]
  · rw [tokF_one _ _ h h3, h4]
theorem tk_all : ∀ (ws : List Nat) (acc : List Bs), (∀ k ∈ ws, k < 6) → toksA (some acc) (ws.map fun k => clsA.getD k []) = some (acc ++ ws.flatMap tkOf)
  | [], acc, _ => by simp [toksA]
  | k :: ws, acc, h => by
    rw [List.map_cons, toksA_cons, tk_one _ _ (h k (by simp)), tk_all ws _ (fun x hx => h x (by simp [hx])), List.flatMap_cons, List.append_assoc]
theorem tk_has (ws : List Nat) (x : Bs) (p : Nat → Bool) (hp : ∀ k, x ∈ tkOf k ↔ p k = true) : (ws.flatMap tkOf).contains x = ws.any p := by
  rw [Bool.eq_iff_iff, List.contains_iff_mem, List.mem_flatMap, List.any_eq_true]
  constructor
  · rintro ⟨k, h1, h2⟩; exact ⟨k, h1, (hp k).1 h2⟩
  · rintro ⟨k, h1, h2⟩; exact ⟨k, h1, (hp k).2 h2⟩
theorem tk_close (k : Nat) : closeB ∈ tkOf k ↔ decide (k < 2) = true := by
  unfold tkOf
  by_cases h : k < 2
  · simp [h]
  · by_cases h2 : k < 4
    · simp only [if_neg h, if_pos h2]; simp [h, show closeB ≠ keepB by decide]
    · by_cases h3 : k = 4
      · subst h3; simp [show closeB ≠ [120] by decide]
      · simp [h, h2, h3]
theorem tk_keep (k : Nat) : keepB ∈ tkOf k ↔ (k == 2 || k == 3) = true := by
  unfold tkOf
  by_cases h : k < 2
  · simp only [if_pos h]; simp [show keepB ≠ closeB by decide]; omega
  · by_cases h2 : k < 4
    · simp only [if_neg h, if_pos h2]; simp; omega
    · by_cases h3 : k = 4
      · subst h3; simp [show keepB ≠ [120] by decide]
      · simp [h, h2, h3]; omega
theorem frm_words (first : Bool) (ws : List Nat) (hk : ∀ k ∈ ws, k < 6) : frmL first (hostAF :: ws.map conF) = (⟨0, 0, ws.any (fun k => decide (k < 2)) || (!first && !ws.any (fun k => k == 2 || k == 3)), false⟩, 0) := by
  have hco : ∀ x ∈ ws.map conF, nmEq x.1 coN = true := by
    intro x hx; obtain ⟨k, -, rfl⟩ := List.mem_map.1 hx; exact (by decide +kernel : nmEq coN coN = true)
  have e2 : ∀ n : Bs, nmEq coN n = false → valsL n (ws.map conF) = [] := by
    intro n hn
    refine valsL_non n _ fun x hx => ?_
    obtain ⟨k, -, rfl⟩ := List.mem_map.1 hx
    exact hn
  have v1 : valsL hostN (hostAF :: ws.map conF) = [[97]] := by rw [valsL_yes _ _ _ (by decide +kernel), e2 _ (by decide +kernel)]; rfl
  have v2 : ∀ n : Bs, nmEq hostN n = false → nmEq coN n = false → valsL n (hostAF :: ws.map conF) = [] := by
    intro n h1 h2
    rw [valsL_no _ _ _ h1, e2 n h2]
  have v3 : valsL coN (hostAF :: ws.map conF) = ws.map (fun k => clsA.getD k []) := by
    rw [valsL_no _ _ _ (by decide +kernel), valsL_all _ _ hco, List.map_map]; rfl
  have v4 : toksL (ws.map fun k => clsA.getD k []) = some (ws.flatMap tkOf) := tk_all ws [] hk
  rw [frmL, v1, v2 teN (by decide +kernel) (by decide +kernel), v2 clN (by decide +kernel) (by decide +kernel), show hostOk first [[97]] = true by cases first <;> decide +kernel, if_pos rfl, show bodyL first [] [] = (0, 0, 0) from rfl]
  show restL first 0 0 _ = _
  rw [restL, v3, v4, v2 exN (by decide +kernel) (by decide +kernel)]
  simp only [tk_has ws closeB _ tk_close, tk_has ws keepB _ tk_keep]
  simp

/-! ### Lengths -/
def lenF (n : Nat) : Fd := (clN, digs 10 n)
def chkF : Fd := (teN, chunkedB)
theorem chkF_ok : isF chkF = true := by decide +kernel
theorem digit_facts : ∀ c : Fin 256, 48 ≤ c.val ∧ c.val ≤ 57 → isB (UInt8.ofNat c.val) = false ∧ alnumB (c.val : Int) = true ∧ low (UInt8.ofNat c.val) = UInt8.ofNat c.val ∧ UInt8.ofNat c.val ≠ 44 ∧ valueB (c.val : Int) = true := by decide +kernel
theorem digit_at (c : UInt8) (h : 48 ≤ c.toNat ∧ c.toNat ≤ 57) : isB c = false ∧ alnumB (c.toNat : Int) = true ∧ low c = c ∧ c ≠ 44 ∧ valueB (c.toNat : Int) = true := by
  have := digit_facts ⟨c.toNat, c.toNat_lt⟩ h
  simpa using this
def allD (d : Bs) : Prop := ∀ c ∈ d, 48 ≤ c.toNat ∧ c.toNat ≤ 57
theorem dropWhile_none {p : UInt8 → Bool} : ∀ (l : Bs), (∀ c ∈ l, p c = false) → l.dropWhile p = l
  | [], _ => rfl
  | c :: l, h => by rw [List.dropWhile_cons, h c (by simp)]; rfl
theorem trimD (d : Bs) (h : allD d) : trimL d = d := by
  have h1 : ∀ c ∈ d, isB c = false := fun c hc => (digit_at c (h c hc)).1
  rw [trimL, trimF, dropWhile_none d h1, trimE, dropWhile_none d.reverse (fun c hc => h1 c (by simpa using hc)), List.reverse_reverse]
theorem tkD (d : Bs) (h : allD d) (h0 : 0 < d.length) : tkL d = true := by
  rw [tkL, allT, List.all_eq_true.2]
  · simpa using h0
  · intro c hc; rw [tokB, (digit_at c (h c hc)).2.1]; rfl
theorem lowD (d : Bs) (h : allD d) : lowL d = d := by
  rw [lowL]
  exact (List.map_congr_left (g := id) fun c hc => (digit_at c (h c hc)).2.2.1).trans (List.map_id d)
theorem splitD (d : Bs) (h : allD d) : splitL 44 d = [d] := splitL_free 44 d fun c hc => (digit_at c (h c hc)).2.2.2.1
theorem digs_D (n : Nat) : allD (digs 10 n) := digs_bytes 10 (by omega) (by omega) (n + 1) n (by omega)
theorem tok_D (acc : List Bs) (n : Nat) : (splitL 44 (digs 10 n)).foldl tokF (some acc) = some (acc ++ [digs 10 n]) := by
  have hD := digs_D n
  have h0 := digs_pos 10 (by omega) n
  have ht := trimD _ hD
  rw [splitD _ hD, List.foldl_cons, List.foldl_nil, tokF_one _ _ (by rw [ht]; intro h; rw [h] at h0; simp at h0) (by rw [ht]; exact tkD _ hD h0), ht, lowD _ hD]
theorem toks_D : ∀ (ns : List Nat) (acc : List Bs), toksA (some acc) (ns.map (digs 10)) = some (acc ++ ns.map (digs 10))
  | [], acc => by simp [toksA]
  | n :: ns, acc => by
    rw [List.map_cons, toksA_cons, tok_D, toks_D ns, List.append_assoc]; rfl
theorem lenF_ok (n : Nat) : isF (lenF n) = true := by
  have hD := digs_D n
  rw [isF, show tkL (lenF n).1 = true from (by decide +kernel : tkL clN = true), Bool.true_and, show (lenF n).2 = digs 10 n from rfl, trimD _ hD]
  have : allV (digs 10 n) = true := by
    rw [allV, List.all_eq_true]; intro c hc; exact (digit_at c (hD c hc)).2.2.2.2
  rw [this]; simp
/-- Are numbers all one? -/
def allN (ns : List Nat) : Bool := ns.all fun n => decide (n = ns.headD 0)
theorem lenT_ns (n : Nat) (ns : List Nat) (hs : ∀ x ∈ n :: ns, x < 4096) : lenT ((n :: ns).map (digs 10)) = if allN (n :: ns) then (if (n : Int) ≤ 2048 then ((n : Int), 0) else (0, 413)) else (0, 400) := by
  have hn : ∀ x ∈ n :: ns, numR 10 15 (digs 10 x) = some (x : Int) := fun x hx => back10 x (by have := hs x hx; omega)
  rw [lenT, List.map_cons, sameN, hn n (by simp), Option.bind_some]
  have ha : ((ns.map (digs 10)).all fun x => decide (numR 10 15 x = some (n : Int))) = allN (n :: ns) := by
    rw [allN, List.all_map, List.all_cons, List.headD_cons]
    simp only [decide_true, Bool.true_and]
    rw [Bool.eq_iff_iff, List.all_eq_true, List.all_eq_true]
    constructor
    · intro h x hx
      have := h x hx
      simp only [Function.comp, hn x (by simp [hx]), decide_eq_true_eq, Option.some.injEq] at this ⊢
      omega
    · intro h x hx
      have := h x hx
      simp only [Function.comp, hn x (by simp [hx]), decide_eq_true_eq, Option.some.injEq] at this ⊢
      omega
  rw [ha]
  cases allN (n :: ns) <;> rfl
def lenRow (ns : List Nat) (coded : Bool) : List Fd := hostAF :: (ns.map lenF ++ if coded then [chkF] else [])
theorem lenRow_ok (ns : List Nat) (coded : Bool) : ∀ f ∈ lenRow ns coded, isF f = true := by
  intro f hf
  rw [lenRow, List.mem_cons, List.mem_append] at hf
  rcases hf with rfl | hf | hf
  · exact hostAF_ok
  · obtain ⟨n, -, rfl⟩ := List.mem_map.1 hf; exact lenF_ok n
  · cases coded
    · simp at hf
    · simp at hf; rw [hf]; exact chkF_ok
theorem frm_lens (first coded : Bool) (ns : List Nat) (hs : ∀ x ∈ ns, x < 4096) :
    (coded = true → (0 < ns.length ∨ first = false) → (frmL first (lenRow ns coded)).2 = 400) ∧
    (coded = true → ns.length = 0 → first = true → frmL first (lenRow ns coded) = (⟨2, 0, false, false⟩, 0)) ∧
    (coded = false → ns.length = 0 → frmL first (lenRow ns coded) = (⟨0, 0, !first, false⟩, 0)) ∧
    (coded = false → 0 < ns.length → allN ns = false → (frmL first (lenRow ns coded)).2 = 400) ∧
    (coded = false → 0 < ns.length → allN ns = true → 2048 < ns.headD 0 → (frmL first (lenRow ns coded)).2 = 413) ∧
    (coded = false → 0 < ns.length → allN ns = true → ns.headD 0 ≤ 2048 → frmL first (lenRow ns coded) = (⟨1, (ns.headD 0 : Int), !first, false⟩, 0)) := by
  have vL : ∀ n : Bs, nmEq clN n = false → valsL n (ns.map lenF) = [] := by
    intro n hn
    refine valsL_non n _ fun x hx => ?_
    obtain ⟨k, -, rfl⟩ := List.mem_map.1 hx
    exact hn
  have vA : ∀ n : Bs, valsL n (lenRow ns coded) = (if nmEq hostN n then [[97]] else []) ++ (valsL n (ns.map lenF) ++ if coded && nmEq teN n then [chunkedB] else []) := by
    intro n
    rw [lenRow, show (hostAF :: (ns.map lenF ++ if coded then [chkF] else [])) = [hostAF] ++ (ns.map lenF ++ if coded then [chkF] else []) from rfl, valsL_app, valsL_app]
    congr 1
    · cases h : nmEq hostN n
      · rw [valsL_no _ _ _ h]; rfl
      · rw [valsL_yes _ _ _ h]; rfl
    · congr 1
      cases coded
      · rfl
      · cases h : nmEq teN n
        · simp only [if_true, Bool.true_and]; rw [valsL_no _ _ _ h]; rfl
        · simp only [if_true, Bool.true_and]; rw [valsL_yes _ _ _ h]; rfl
  have v1 : valsL hostN (lenRow ns coded) = [[97]] := by
    rw [vA, vL hostN (by decide +kernel), show nmEq hostN hostN = true by decide +kernel, show nmEq teN hostN = false by decide +kernel]; cases coded <;> rfl
  have v2 : valsL teN (lenRow ns coded) = if coded then [chunkedB] else [] := by
    rw [vA, vL teN (by decide +kernel), show nmEq hostN teN = false by decide +kernel, show nmEq teN teN = true by decide +kernel]; cases coded <;> rfl
  have v3 : valsL clN (lenRow ns coded) = ns.map (digs 10) := by
    rw [vA, valsL_all clN, show nmEq hostN clN = false by decide +kernel, show nmEq teN clN = false by decide +kernel, List.map_map]
    · cases coded
      all_goals
        simp only [Bool.false_eq_true, if_false, List.nil_append, Bool.and_false, List.append_nil]
        rfl
    · intro x hx; obtain ⟨k, -, rfl⟩ := List.mem_map.1 hx; exact (by decide +kernel : nmEq clN clN = true)
  have v4 : valsL coN (lenRow ns coded) = [] := by
    rw [vA, vL coN (by decide +kernel), show nmEq hostN coN = false by decide +kernel, show nmEq teN coN = false by decide +kernel]; cases coded <;> rfl
  have v5 : valsL exN (lenRow ns coded) = [] := by
    rw [vA, vL exN (by decide +kernel), show nmEq hostN exN = false by decide +kernel, show nmEq teN exN = false by decide +kernel]; cases coded <;> rfl
  have hr : ∀ kind len : Int, restL first kind len (lenRow ns coded) = (⟨kind, len, !first, false⟩, 0) := by
    intro kind len
    rw [restL, v4, v5, toksL_nil]; cases first <;> rfl
  have hf : frmL first (lenRow ns coded) = (let b := bodyL first (if coded then [chunkedB] else []) (ns.map (digs 10)); if b.2.2 = 0 then (⟨b.1, b.2.1, !first, false⟩, 0) else (how0, b.2.2)) := by
    rw [frmL, v1, v2, v3, show hostOk first [[97]] = true by cases first <;> decide +kernel, if_pos rfl]
    simp only [hr]
  have tC : toksL [chunkedB] = some [chunkedB] := by decide +kernel
  have tN : toksL (ns.map (digs 10)) = some (ns.map (digs 10)) := toks_D ns []
  rw [hf]
  cases coded
  · cases ns with
    | nil => simp [bodyL]
    | cons n ns =>
      have hb : bodyL first [] ((n :: ns).map (digs 10)) = (1, (lenT ((n :: ns).map (digs 10))).1, (lenT ((n :: ns).map (digs 10))).2) := by
        rw [bodyL, if_pos rfl, if_neg (by simp), lenL, tN]
      simp only [Bool.false_eq_true, if_false]
      rw [hb, lenT_ns n ns hs]
      cases ha : allN (n :: ns)
      · simp
      · by_cases h : (n : Int) ≤ 2048
        · simp [h]; omega
        · simp [h]; omega
  · have hb : bodyL first [chunkedB] (ns.map (digs 10)) = (2, 0, if first && (ns.map (digs 10)).isEmpty then 0 else 400) := by
      rw [bodyL, if_neg (by simp), codL, tC]
      show (2, 0, if (first && (ns.map (digs 10)).isEmpty) = true then codT [chunkedB] else 400) = _
      rw [show codT [chunkedB] = 0 by decide]
    simp only [if_true]
    rw [hb]
    cases ns with
    | nil => cases first <;> simp
    | cons n ns => cases first <;> simp
end Go.Proofs.YtfpojnijjpojlaaGreatDoor
