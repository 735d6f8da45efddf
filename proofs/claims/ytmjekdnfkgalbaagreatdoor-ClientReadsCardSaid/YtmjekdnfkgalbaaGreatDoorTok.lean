/- list.Tokens. framing: must, tokens, coded, length, the deferred function. framing: tokens, coded, length. framing: coded, length; slices.Index and slices.Contains of texts. framing: length. framing.Of. -/
import Derived.Test.YtmjekdnfkgalbaaGreatDoorFPl
import Derived.Test.YtmjekdnfkgalbaaGreatDoorApp
import Derived.Defers
import Derived.Recover
import Derived.Lib.SlicesS
import Derived.WalkLawsBesides
import Derived.Test.YtmjekdnfkgalbaaGreatDoorTgt5
import Derived.Test.YtmjekdnfkgalbaaGreatDoorAscii
namespace Go.Proofs.YtmjekdnfkgalbaaGreatDoor
open Go.RowKit
set_option maxRecDepth 100000
set_option maxHeartbeats 2000000

def TxSz (l : List Bs) : Prop := ∀ v ∈ l, v.length ≤ 1000000
def TokPost (w : World) (o : Option (List Bs)) (e : Ending) (w' : World) : Prop :=
  (∃ A c, e = .returned (.tuple #[.slice A (o.getD []).length c, .bool o.isSome]) ∧ (o.getD []).length ≤ c ∧ c ≤ maxLen ∧ Rd w' w'.heap.size 1 A (o.getD []).length ((o.getD []).map tv)) ∧ Below w.heap.size w w'
theorem tok_ret {w wr : World} {base : Nat} {v : Value} {l : List Bs} {o : Option (List Bs)} (ho : OS wr base v l) (e : o = some l) (L : Below w.heap.size w wr) : TokPost w o (.returned (.tuple #[v, .bool true])) wr := by
  subst e
  obtain ⟨A, c, hv, h1, h2, h3⟩ := ho.form
  exact ⟨⟨A, c, by rw [hv]; rfl, h1, h2, h3⟩, L⟩
theorem tok_none {w wr : World} {o : Option (List Bs)} (e : o = none) (L : Below w.heap.size w wr) : TokPost w o (.returned (.tuple #[.slice none 0 0, .bool false])) wr := by
  subst e
  exact ⟨⟨none, 0, rfl, Nat.zero_le _, Nat.zero_le _, Rd.nil _ _ _ _⟩, L⟩
theorem trimE_len (l : Bs) : (trimE l).length ≤ l.length := by
  unfold trimE
  rw [List.length_reverse]
  refine Nat.le_trans (List.Sublist.length_le (List.dropWhile_sublist _)) ?_
  rw [List.length_reverse]
  exact Nat.le_refl _
theorem trimL_len (l : Bs) : (trimL l).length ≤ l.length := Nat.le_trans (trimE_len _) (List.Sublist.length_le (List.dropWhile_sublist _))
theorem split_max (c : UInt8) (l : Bs) : (splitL c l).length ≤ l.length + 1 := by
  rw [splitL_len]; have := List.count_le_length (a := c) (l := l); omega
theorem split_sz (c : UInt8) : ∀ (l : Bs) (p : Bs), p ∈ splitL c l → p.length ≤ l.length
  | [], p, h => by simp [splitL] at h; simp [h]
  | b :: l, p, h => by
    rw [splitL] at h
    split at h
    · rcases List.mem_cons.1 h with rfl | h
      · simp
      · have := split_sz c l p h; simp; omega
    · obtain ⟨q, ps, h1⟩ := List.exists_cons_of_ne_nil (splitL_ne c l)
      rw [h1] at h
      rcases List.mem_cons.1 h with rfl | h
      · have := split_sz c l q (by rw [h1]; simp)
        simp; omega
      · have := split_sz c l p (by rw [h1]; simp [h])
        simp; omega
theorem drop_tx {l : List Bs} {k : Nat} (h : k < l.length) : ∃ f, l[k]? = some f ∧ l.drop k = f :: l.drop (k + 1) :=
  ⟨l[k], List.getElem?_eq_getElem h, List.drop_eq_getElem_cons h⟩
theorem toks_at (vs : List Bs) (k : Nat) (st : Option (List Bs)) (v : Bs) (hd : vs.drop k = v :: vs.drop (k + 1)) (H : toksL vs = toksA st (vs.drop k)) : toksL vs = toksA ((splitL 44 v).foldl tokF st) (vs.drop (k + 1)) := by
  rw [H, hd, toksA_cons]
theorem nil_str {s : Bs} (h : s = []) : (sv s : Value) = .string ⟨#[]⟩ := by rw [h]

end Go.Proofs.YtmjekdnfkgalbaaGreatDoor
namespace Go.Proofs.YtmjekdnfkgalbaaGreatDoor
open Go.RowKit
set_option maxRecDepth 100000
set_option maxHeartbeats 2000000

end Go.Proofs.YtmjekdnfkgalbaaGreatDoor
namespace Go.Proofs.YtmjekdnfkgalbaaGreatDoor
open Go.RowKit
set_option maxRecDepth 100000
set_option maxHeartbeats 2000000

/-- A receiver that may be nil. -/
def FP (w : World) (p : Option Addr) (l : List Fd) : Prop := (p = none ∧ l = []) ∨ ∃ g, p = some ⟨g, 0, none⟩ ∧ FR w 109 g l
theorem FP.belowW {w w' : World} {p : Option Addr} {l : List Fd} (h : FP w p l) (hb : Below w.heap.size w w') : FP w' p l := by
  rcases h with ⟨rfl, rfl⟩ | ⟨g, rfl, h⟩
  · exact .inl ⟨rfl, rfl⟩
  · exact .inr ⟨g, rfl, h.belowW hb⟩
theorem valsL_sz (n : Bs) (l : List Fd) (h : FdSz l) : TxSz (valsL n l) := by
  intro v hv
  obtain ⟨f, h1, rfl⟩ := valsL_mem _ _ v hv
  exact (h f h1).2
end Go.Proofs.YtmjekdnfkgalbaaGreatDoor
namespace Go.Proofs.YtmjekdnfkgalbaaGreatDoor
open Go.RowKit
set_option maxRecDepth 100000
set_option maxHeartbeats 2000000

def idxL (x : Bs) : List Bs → Nat → Int
  | [], _ => -1
  | z :: zs, i => if z = x then i else idxL x zs (i + 1)
theorem mk_eq (z : Bs) (x : ByteArray) : ((⟨z.toArray⟩ : ByteArray) = x) ↔ z = x.data.toList := by
  constructor
  · rintro rfl; rfl
  · intro h; exact str_ext h
theorem idxL_lib (x : ByteArray) : ∀ (t : List Bs) (i : Nat), Lib.idxFromS (t.map fun l => (⟨l.toArray⟩ : ByteArray)) x i = idxL x.data.toList t i
  | [], _ => rfl
  | z :: t, i => by
    rw [List.map_cons, Lib.idxFromS, idxL]
    by_cases h : z = x.data.toList
    · rw [if_pos h, if_pos ((mk_eq z x).2 h)]
    · rw [if_neg h, if_neg (fun e => h ((mk_eq z x).1 e)), idxL_lib x t (i + 1)]
theorem idxL_spec (x : Bs) : ∀ (t : List Bs) (i : Nat), (idxL x t i = -1 ∧ x ∉ t) ∨ ∃ k, k < t.length ∧ idxL x t i = ((i + k : Nat) : Int) ∧ t[k]? = some x ∧ x ∉ t.take k
  | [], i => .inl ⟨rfl, by simp⟩
  | z :: t, i => by
    rw [idxL]
    by_cases h : z = x
    · rw [if_pos h]
      exact .inr ⟨0, by simp, by simp, by simp [h], by simp⟩
    · rw [if_neg h]
      rcases idxL_spec x t (i + 1) with ⟨h1, h2⟩ | ⟨k, h1, h2, h3, h4⟩
      · exact .inl ⟨h1, by simp [h2, Ne.symm h]⟩
      · refine .inr ⟨k + 1, by simp; omega, by rw [h2]; congr 1; omega, by simpa using h3, by simp [h4, Ne.symm h]⟩
theorem cod_idx (t : List Bs) : (codT t = 400 ∧ (idxL chunkedB t 0 < 0 ∨ (0 ≤ idxL chunkedB t 0 ∧ idxL chunkedB t 0 ≠ (t.length : Int) - 1))) ∨ (codT t = 501 ∧ 0 < idxL chunkedB t 0 ∧ idxL chunkedB t 0 = (t.length : Int) - 1) ∨ (codT t = 0 ∧ idxL chunkedB t 0 = 0 ∧ (t.length : Int) - 1 = 0) := by
  rcases idxL_spec chunkedB t 0 with ⟨h1, h2⟩ | ⟨k, h1, h2, h3, h4⟩
  · refine .inl ⟨?_, .inl (by omega)⟩
    rw [codT, if_neg]
    intro h
    exact h2 (List.mem_of_getLast? h)
  · rw [Nat.zero_add] at h2
    rw [h2]
    by_cases hk : k = t.length - 1
    · have hl : t.getLast? = some chunkedB := by rw [List.getLast?_eq_getElem?, ← hk]; exact h3
      have hd : chunkedB ∉ t.dropLast := by rw [List.dropLast_eq_take, ← hk]; exact h4
      by_cases h0 : k = 0
      · refine .inr (.inr ⟨?_, by omega, by omega⟩)
        rw [codT, if_pos hl, if_neg hd, if_pos (by omega)]
      · refine .inr (.inl ⟨?_, by omega, by omega⟩)
        rw [codT, if_pos hl, if_neg hd, if_neg (by omega)]
    · refine .inl ⟨?_, .inr ⟨by omega, by omega⟩⟩
      rw [codT]
      by_cases hl : t.getLast? = some chunkedB
      · rw [if_pos hl, if_pos]
        rw [List.dropLast_eq_take]
        have : (t.take (t.length - 1))[k]? = some chunkedB := by rw [List.getElem?_take_of_lt (by omega)]; exact h3
        exact List.mem_of_getElem? this
      · rw [if_neg hl]
theorem rd_getD {w : World} {B : Nat} {A : Option Addr} {t : List Bs} (hA : Rd w B 1 A t.length (t.map tv)) (h0 : 0 < t.length) : ∃ b o, A = some ⟨b, o, none⟩ ∧ ∀ j, j < (t.map fun l => (⟨l.toArray⟩ : ByteArray)).length → w.cell? ⟨b, o + j, none⟩ = some (.string ((t.map fun l => (⟨l.toArray⟩ : ByteArray)).getD j ByteArray.empty)) := by
  obtain ⟨b, o, e, hb, hc⟩ := hA.2 h0
  refine ⟨b, o, e, fun j hj => ?_⟩
  rw [List.length_map] at hj
  rw [hc j (tv t[j]) (by rw [List.getElem?_map, List.getElem?_eq_getElem hj]; rfl)]
  rw [List.getD_eq_getElem?_getD, List.getElem?_map, List.getElem?_eq_getElem hj]
  rfl
end Go.Proofs.YtmjekdnfkgalbaaGreatDoor
namespace Go.Proofs.YtmjekdnfkgalbaaGreatDoor
open Go.RowKit
set_option maxRecDepth 100000
set_option maxHeartbeats 2000000

theorem sameN_all (t : List Bs) (n : Int) : sameN t = some n ↔ t ≠ [] ∧ ∀ x ∈ t, numR 10 15 x = some n := by
  cases t with
  | nil => simp [sameN]
  | cons s r =>
    rw [sameN]
    cases hs : numR 10 15 s with
    | none =>
      simp only [Option.bind_none]
      constructor
      · intro h; cases h
      · rintro ⟨-, h⟩
        have := h s (by simp)
        rw [hs] at this; cases this
    | some m =>
      simp only [Option.bind_some]
      split
      · rename_i ha
        rw [List.all_eq_true] at ha
        constructor
        · intro h
          injection h with h
          subst h
          refine ⟨by simp, fun x hx => ?_⟩
          rcases List.mem_cons.1 hx with rfl | hx
          · exact hs
          · simpa using ha x hx
        · rintro ⟨-, h⟩
          have := h s (by simp)
          rw [hs] at this
          exact this
      · rename_i ha
        constructor
        · intro h; cases h
        · rintro ⟨-, h⟩
          exfalso
          have h1 := h s (by simp)
          rw [hs] at h1
          injection h1 with h1
          subst h1
          exact ha (List.all_eq_true.2 fun x hx => by simpa using h x (by simp [hx]))
theorem sameN_one (t : List Bs) (k : Nat) (x : Bs) (n : Int) (hx : t[k]? = some x) (hn : numR 10 15 x = some n) (h : k = 0 ∨ sameN (t.take k) = some n) : sameN (t.take (k + 1)) = some n := by
  rw [sameN_all]
  rw [List.take_add_one, hx, Option.toList_some]
  refine ⟨by simp, fun y hy => ?_⟩
  rcases List.mem_append.1 hy with hy | hy
  · rcases h with h | h
    · subst h; simp at hy
    · exact ((sameN_all _ _).1 h).2 y hy
  · rw [List.mem_singleton] at hy; subst hy; exact hn
theorem sameN_no (t : List Bs) (k : Nat) (x : Bs) (n : Int) (hx : t[k]? = some x) (hn : numR 10 15 x ≠ some n) (_h0 : 0 < k) (h : sameN (t.take k) = some n) : sameN t = none := by
  cases hs : sameN t with
  | none => rfl
  | some m =>
    exfalso
    have h1 := ((sameN_all _ _).1 hs).2
    have h2 := (sameN_all _ _).1 h
    obtain ⟨y, hy⟩ := List.exists_mem_of_ne_nil _ h2.1
    have h3 := h2.2 y hy
    rw [h1 y (List.mem_of_mem_take hy)] at h3
    injection h3 with h3
    subst h3
    exact hn (h1 x (List.mem_of_getElem? hx))
theorem sameN_none (t : List Bs) (k : Nat) (x : Bs) (hx : t[k]? = some x) (hn : numR 10 15 x = none) : sameN t = none := by
  cases hs : sameN t with
  | none => rfl
  | some m =>
    exfalso
    have h1 := ((sameN_all _ _).1 hs).2 x (List.mem_of_getElem? hx)
    rw [hn] at h1; cases h1
theorem lenT_none (t : List Bs) (h : sameN t = none) : lenT t = (0, 400) := by rw [lenT, h]
end Go.Proofs.YtmjekdnfkgalbaaGreatDoor
namespace Go.Proofs.YtmjekdnfkgalbaaGreatDoor
open Go.RowKit
set_option maxRecDepth 100000
set_option maxHeartbeats 4000000

abbrev howC (k : How) : Array Value := #[.int .i64 k.kind, .int .i64 k.len, .bool k.close, .bool k.expect]
theorem tokP_sz (M : Nat) : ∀ (P st l : List Bs), P.foldl tokF (some st) = some l → (∀ x ∈ st, x.length ≤ M) → (∀ s ∈ P, s.length ≤ M) → ∀ x ∈ l, x.length ≤ M
  | [], st, l, h, h1, _ => by injection h with h; subst h; exact h1
  | s :: P, st, l, h, h1, h2 => by
    rw [List.foldl_cons] at h
    have hs := h2 s (by simp)
    have ht := trimL_len s
    by_cases e : trimL s = []
    · rw [tokF_skip _ _ e] at h
      exact tokP_sz M P st l h h1 (fun y hy => h2 y (by simp [hy]))
    · cases hk : tkL (trimL s)
      · rw [tokF_bad _ _ e hk, tokF_none] at h
        cases h
      · rw [tokF_one _ _ e hk] at h
        refine tokP_sz M P _ l h (fun y hy => ?_) (fun y hy => h2 y (by simp [hy]))
        rcases List.mem_append.1 hy with hy | hy
        · exact h1 y hy
        · rw [List.mem_singleton] at hy
          subst hy
          rw [lowL, List.length_map]
          omega
theorem toks_sz (vs t : List Bs) (h : toksL vs = some t) (hs : TxSz vs) : TxSz t := by
  refine tokP_sz 1000000 _ [] t h (by simp) fun s hs2 => ?_
  obtain ⟨v, hv, hv2⟩ := List.mem_flatMap.1 hs2
  exact Nat.le_trans (split_sz 44 v s hv2) (hs v hv)
theorem low_cont : lowL contB = contB := by decide +kernel
end Go.Proofs.YtmjekdnfkgalbaaGreatDoor
