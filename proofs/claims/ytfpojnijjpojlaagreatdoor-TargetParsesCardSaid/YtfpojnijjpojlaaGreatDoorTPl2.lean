/- Paths in plain words, on: what is clean stays; down and up. -/
import Derived.Test.YtfpojnijjpojlaaGreatDoorTgt3
namespace Go.Proofs.YtfpojnijjpojlaaGreatDoor
open Go.RowKit

def goodP (p : Bs) : Prop := p ≠ [] ∧ p ≠ [46] ∧ p ≠ [46, 46] ∧ ∀ b ∈ p, b ≠ 47
theorem splitL_no (c : UInt8) : ∀ (l : Bs), ∀ p ∈ splitL c l, ∀ b ∈ p, b ≠ c
  | [], p, hp, b, hb => by simp [splitL] at hp; subst hp; simp at hb
  | x :: l, p, hp, b, hb => by
    rw [splitL] at hp
    split at hp
    · rcases List.mem_cons.1 hp with rfl | hp
      · simp at hb
      · exact splitL_no c l p hp b hb
    · rename_i hx
      obtain ⟨q, qs, h1⟩ := List.exists_cons_of_ne_nil (splitL_ne c l)
      rw [h1] at hp
      rcases List.mem_cons.1 hp with rfl | hp
      · rcases List.mem_cons.1 hb with rfl | hb
        · exact hx
        · exact splitL_no c l q (by rw [h1]; simp) b hb
      · exact splitL_no c l p (by rw [h1]; simp [hp]) b hb
theorem stepP_good (ps : List Bs) (p : Bs) (hg : ∀ q ∈ ps, goodP q) (hp : ∀ b ∈ p, b ≠ 47) (r : List Bs) (h : stepP (some ps) p = some r) : ∀ q ∈ r, goodP q := by
  rw [stepP, Option.bind_some] at h
  split at h
  · injection h with h; exact h ▸ hg
  · rename_i h1
    split at h
    · split at h
      · cases h
      · injection h with h
        intro q hq
        rw [← h] at hq
        exact hg q (List.dropLast_subset ps hq)
    · rename_i h2
      injection h with h
      intro q hq
      rw [← h] at hq
      rcases List.mem_append.1 hq with hq | hq
      · exact hg q hq
      · obtain rfl : q = p := by simpa using hq
        exact ⟨fun e => h1 (.inl e), fun e => h1 (.inr e), h2, hp⟩
theorem fold_good : ∀ (P ps : List Bs), (∀ q ∈ ps, goodP q) → (∀ p ∈ P, ∀ b ∈ p, b ≠ 47) → ∀ r, P.foldl stepP (some ps) = some r → ∀ q ∈ r, goodP q
  | [], ps, hg, _, r, h => by
    have : ps = r := by simpa using h
    exact this ▸ hg
  | p :: P, ps, hg, hp, r, h => by
    rw [List.foldl_cons] at h
    cases hs : stepP (some ps) p with
    | none => rw [hs, stepP_none] at h; cases h
    | some q =>
      rw [hs] at h
      exact fold_good P q (stepP_good ps p hg (hp p (by simp)) q hs) (fun x hx => hp x (by simp [hx])) r h
theorem fold_id : ∀ (P ps : List Bs), (∀ q ∈ P, goodP q) → P.foldl stepP (some ps) = some (ps ++ P)
  | [], ps, _ => by simp
  | p :: P, ps, h => by
    have hp := h p (by simp)
    have e : stepP (some ps) p = some (ps ++ [p]) := by rw [stepP, Option.bind_some, if_neg (by simp [hp.1, hp.2.1]), if_neg hp.2.2.1]
    rw [List.foldl_cons, e, fold_id P (ps ++ [p]) (fun q hq => h q (by simp [hq]))]
    simp
theorem split_join : ∀ (ps : List Bs), (∀ p ∈ ps, ∀ b ∈ p, b ≠ 47) → splitL 47 (joinP ps) = [] :: ps
  | [], _ => rfl
  | p :: ps, h => by
    have hp := h p (by simp)
    have ih := split_join ps (fun q hq => h q (by simp [hq]))
    show splitL 47 (47 :: (p ++ joinP ps)) = _
    rw [splitL, if_pos rfl]
    cases ps with
    | nil => simp only [joinP, List.flatMap_nil, List.append_nil]; rw [splitL_free 47 p hp]
    | cons q qs =>
      have e : joinP (q :: qs) = 47 :: (q ++ joinP qs) := rfl
      rw [e] at ih ⊢
      rw [splitL, if_pos rfl] at ih
      rw [splitL_append 47 p _ hp, (List.cons.inj ih).2]
theorem split_join1 (ps : List Bs) (h : ∀ p ∈ ps, ∀ b ∈ p, b ≠ 47) : splitL 47 (joinP ps ++ [47]) = [] :: (ps ++ [[]]) := by
  have e : joinP ps ++ [47] = joinP (ps ++ [[]]) := by rw [joinP_app]; rfl
  rw [e]
  refine split_join _ fun p hp => ?_
  rcases List.mem_append.1 hp with hp | hp
  · exact h p hp
  · have : p = [] := by simpa using hp
    subst this; simp
theorem getLastD_good (ps : List Bs) (hne : ps ≠ []) (hg : ∀ q ∈ ps, goodP q) : dirP (ps.getLastD []) = false := by
  obtain ⟨q, hq⟩ : ∃ q, ps.getLast? = some q := ⟨ps.getLast hne, List.getLast?_eq_some_getLast hne⟩
  have hm : q ∈ ps := List.mem_of_getLast? hq
  have : ps.getLastD [] = q := by rw [List.getLastD_eq_getLast?, hq]; rfl
  rw [this]
  have := hg q hm
  simp [dirP, this.1, this.2.1, this.2.2.1]
theorem clean_join (ps : List Bs) (hne : ps ≠ []) (hg : ∀ q ∈ ps, goodP q) : cleanL (joinP ps) = some (joinP ps) := by
  have h47 : (joinP ps).head? = some 47 := by cases ps with | nil => exact absurd rfl hne | cons p ps => rfl
  rw [cleanL, if_pos h47, cleanP, split_join ps (fun p hp => (hg p hp).2.2.2), List.foldl_cons]
  have e0 : stepP (some []) [] = some [] := rfl
  rw [e0, fold_id ps [] hg]
  have hl : ([] :: ps).getLastD [] = ps.getLastD [] := by rw [List.getLastD_cons]
  simp only [List.nil_append, Option.map_some, hl, endP, getLastD_good ps hne hg]
  cases ps with
  | nil => exact absurd rfl hne
  | cons p ps => simp
theorem clean_join1 (ps : List Bs) (hg : ∀ q ∈ ps, goodP q) : cleanL (joinP ps ++ [47]) = some (joinP ps ++ [47]) := by
  have h47 : (joinP ps ++ [47]).head? = some 47 := by cases ps with | nil => rfl | cons p ps => rfl
  rw [cleanL, if_pos h47, cleanP, split_join1 ps (fun p hp => (hg p hp).2.2.2), List.foldl_cons, List.foldl_append]
  have e0 : stepP (some []) [] = some [] := rfl
  rw [e0, fold_id ps [] hg]
  have hl : ([] :: (ps ++ [[]])).getLastD [] = [] := by rw [List.getLastD_cons]; simp
  have e1 : List.foldl stepP (some ([] ++ ps)) [[]] = some ps := rfl
  rw [e1, hl]
  simp [endP, dirP]
/-- What is clean stays. -/
theorem clean_stays (l a : Bs) (h : cleanL l = some a) : cleanL a = some a := by
  rw [cleanL] at h
  split at h
  · rw [cleanP] at h
    cases hf : (splitL 47 l).foldl stepP (some []) with
    | none => rw [hf] at h; cases h
    | some ps =>
      have hg := fold_good (splitL 47 l) [] (by simp) (splitL_no 47 l) ps hf
      rw [hf] at h
      simp only [Option.map_some, Option.some.injEq] at h
      rw [← h, endP]
      split
      · exact clean_join1 ps hg
      · rename_i hn
        rw [List.append_nil]
        refine clean_join ps ?_ hg
        rintro rfl
        simp at hn
  · cases h
theorem stepP_len (ps : List Bs) (p : Bs) (r : List Bs) (h : stepP (some ps) p = some r) : (joinP r).length ≤ (joinP ps).length + (p.length + 1) ∧ (dirP p = true → (joinP r).length ≤ (joinP ps).length) := by
  rw [stepP, Option.bind_some] at h
  split at h
  · injection h with h; subst h; exact ⟨by omega, fun _ => Nat.le_refl _⟩
  · rename_i h1
    split at h
    · split at h
      · cases h
      · injection h with h
        subst h
        have := joinP_last ps
        exact ⟨by omega, fun _ => this⟩
    · rename_i h2
      injection h with h
      subst h
      refine ⟨?_, fun hd => ?_⟩
      · rw [joinP_app, List.length_append]; simp [joinP]
      · simp [dirP] at hd; exact absurd hd (by simp at h1; simp [h1, h2])
theorem fold_len : ∀ (P ps r : List Bs), P.foldl stepP (some ps) = some r → (joinP r).length ≤ (joinP ps).length + (joinP P).length
  | [], ps, r, h => by
    have : ps = r := by simpa using h
    subst this; simp [joinP]
  | p :: P, ps, r, h => by
    rw [List.foldl_cons] at h
    cases hs : stepP (some ps) p with
    | none => rw [hs, stepP_none] at h; cases h
    | some q =>
      rw [hs] at h
      have h1 := fold_len P q r h
      have h2 := (stepP_len ps p q hs).1
      have h3 : (joinP (p :: P)).length = p.length + 1 + (joinP P).length := by rw [show joinP (p :: P) = 47 :: (p ++ joinP P) from rfl]; simp; omega
      omega
theorem clean_len (l a : Bs) (h : cleanL l = some a) : a.length ≤ l.length + 1 := by
  rw [cleanL] at h
  split at h
  · rw [cleanP] at h
    cases hf : (splitL 47 l).foldl stepP (some []) with
    | none => rw [hf] at h; cases h
    | some ps =>
      rw [hf] at h
      simp only [Option.map_some, Option.some.injEq] at h
      have hJ : (joinP (splitL 47 l)).length = l.length + 1 := by rw [joinP_split]; rfl
      have h0 := fold_len _ _ _ hf
      have hz : (joinP ([] : List Bs)).length = 0 := rfl
      rw [← h, endP, List.length_append]
      split
      · rename_i hd
        have hdec := List.dropLast_concat_getLast (splitL_ne 47 l)
        have hlast : (splitL 47 l).getLastD [] = (splitL 47 l).getLast (splitL_ne 47 l) := by rw [List.getLastD_eq_getLast?, List.getLast?_eq_some_getLast (splitL_ne 47 l)]; rfl
        rw [hlast] at hd
        generalize (splitL 47 l).getLast (splitL_ne 47 l) = last at hdec hd
        rw [← hdec, List.foldl_append] at hf
        rw [← hdec, joinP_app, List.length_append] at hJ
        have hl1 : (joinP [last]).length = last.length + 1 := by simp [joinP]
        cases hs : (splitL 47 l).dropLast.foldl stepP (some []) with
        | none => rw [hs] at hf; cases hf
        | some q =>
          rw [hs] at hf
          have h2 := fold_len _ _ _ hs
          have h3 := stepP_len q last ps hf
          have h1 : ([47] : Bs).length = 1 := rfl
          rw [Bool.or_eq_true] at hd
          rcases hd with hd | hd
          · have := h3.2 hd
            rw [h1]; omega
          · have : ps = [] := by cases ps with | nil => rfl | cons => simp at hd
            subst this
            rw [h1]; omega
      · simp; omega
  · cases h

/-! ### Down and up -/
theorem fold_up (name : Bs) : ∀ (n : Nat), (List.replicate n [46, 46]).foldl stepP (some (List.replicate n name)) = some []
  | 0 => rfl
  | n + 1 => by
    rw [show List.replicate (n + 1) ([46, 46] : Bs) = [46, 46] :: List.replicate n [46, 46] from List.replicate_succ, List.foldl_cons]
    have e : stepP (some (List.replicate (n + 1) name)) [46, 46] = some (List.replicate n name) := by
      rw [stepP, Option.bind_some, if_neg (by simp), if_pos rfl, if_neg (by simp)]
      congr 1
      rw [List.dropLast_replicate]; rfl
    rw [e]
    exact fold_up name n
theorem fold_dn (n : Nat) (name : Bs) (h : goodP name) : (List.replicate n name ++ List.replicate n [46, 46]).foldl stepP (some []) = some [] := by
  rw [List.foldl_append, fold_id _ _ (fun q hq => by rw [(List.mem_replicate.1 hq).2]; exact h), List.nil_append]
  exact fold_up name n
theorem dn_no (n : Nat) (name : Bs) (h : goodP name) : ∀ p ∈ List.replicate n name ++ List.replicate n [46, 46], ∀ b ∈ p, b ≠ 47 := by
  intro p hp b hb
  rcases List.mem_append.1 hp with hp | hp
  · rw [(List.mem_replicate.1 hp).2] at hb; exact h.2.2.2 b hb
  · rw [(List.mem_replicate.1 hp).2] at hb
    intro e; subst e; simp at hb
theorem clean_root (n : Nat) (name : Bs) (h : goodP name) : cleanL (joinP (List.replicate n name) ++ joinP (List.replicate n [46, 46]) ++ [47]) = some [47] := by
  rw [← joinP_app]
  have hA := fold_dn n name h
  have hN := dn_no n name h
  generalize List.replicate n name ++ List.replicate n [46, 46] = A at hA hN
  have h47 : (joinP A ++ [47]).head? = some 47 := by cases A with | nil => rfl | cons p ps => rfl
  rw [cleanL, if_pos h47, cleanP, split_join1 A hN, List.foldl_cons, List.foldl_append]
  have e0 : stepP (some []) [] = some [] := rfl
  rw [e0, hA]
  have hl : ([] :: (A ++ [[]])).getLastD [] = [] := by rw [List.getLastD_cons]; simp
  rw [hl]; rfl
theorem clean_out (n : Nat) (name : Bs) (h : goodP name) : cleanL (joinP (List.replicate n name) ++ joinP (List.replicate n [46, 46]) ++ [47, 46, 46]) = none := by
  have e : joinP (List.replicate n name) ++ joinP (List.replicate n [46, 46]) ++ [47, 46, 46] = joinP (List.replicate n name ++ List.replicate n [46, 46] ++ [[46, 46]]) := by rw [joinP_app, joinP_app]; rfl
  rw [e]
  have hA := fold_dn n name h
  have hN := dn_no n name h
  generalize List.replicate n name ++ List.replicate n [46, 46] = A at hA hN
  have h47 : (joinP (A ++ [[46, 46]])).head? = some 47 := by cases A with | nil => rfl | cons p ps => rfl
  have hN2 : ∀ p ∈ A ++ [[46, 46]], ∀ b ∈ p, b ≠ 47 := by
    intro p hp b hb
    rcases List.mem_append.1 hp with hp | hp
    · exact hN p hp b hb
    · have : p = [46, 46] := by simpa using hp
      subst this
      intro e; subst e; simp at hb
  rw [cleanL, if_pos h47, cleanP, split_join _ hN2, List.foldl_cons, List.foldl_append]
  have e0 : stepP (some []) [] = some [] := rfl
  rw [e0, hA]; rfl
end Go.Proofs.YtfpojnijjpojlaaGreatDoor
