/- Heads of many fields, in plain words. -/
import Derived.Test.YtmnnbfaaaifcoaaGreatDoorHLaw2
namespace Go.Proofs.YtmnnbfaaaifcoaaGreatDoor
open Go.RowKit
set_option maxRecDepth 100000

theorem tkL_no58 (l : Bs) (h : tkL l = true) : ∀ b ∈ l, (b != 58) = true := by
  intro b hb
  simp only [tkL, allT, Bool.and_eq_true, List.all_eq_true] at h
  have h1 := h.1 b hb
  rw [bne_iff_ne]
  rintro rfl
  revert h1; decide
theorem trim_sp (v : Bs) : trimL (32 :: v) = trimL v := by rw [trimL, trimL, trimF, trimF, List.dropWhile_cons, if_pos (by decide)]
theorem parseF_of (f : Fd) (h : isF f = true) (hl : f.1.length + 2 + f.2.length ≤ 256) : parseF (f.1 ++ [58, 32] ++ f.2) = some f := by
  obtain ⟨N, V⟩ := f
  dsimp only at hl
  have h0 := h
  simp only [isF, Bool.and_eq_true, decide_eq_true_eq] at h
  obtain ⟨h1, h2, h3⟩ := h
  have hn := tkL_no58 N h1
  have e1 : (N ++ [58, 32] ++ V).takeWhile (· != 58) = N := by
    rw [List.append_assoc, List.takeWhile_append_of_pos hn]
    simp
  have e2 : (N ++ [58, 32] ++ V).dropWhile (· != 58) = 58 :: 32 :: V := by
    rw [List.append_assoc, List.dropWhile_append_of_pos hn]
    simp
  rw [parseF, if_neg (by simp only [List.length_append, List.length_cons, List.length_nil]; omega), if_pos (by simp)]
  simp only [e1, e2, List.tail_cons, trim_sp, h3]
  rw [h0]; rfl
def mS (m : Nat) : Bs := [97, 58] ++ List.replicate m 98
theorem mS_len (m : Nat) : (mS m).length = m + 2 := by simp [mS]
theorem trim_rep (m : Nat) : trimL (List.replicate m 98) = List.replicate m 98 := by
  have e : ∀ m : Nat, (List.replicate m (98 : UInt8)).dropWhile isB = List.replicate m 98 := fun m => by
    cases m with
    | zero => rfl
    | succ m => rw [List.replicate_succ, List.dropWhile_cons, if_neg (by decide)]
  rw [trimL, trimF, e, trimE, List.reverse_replicate, e, List.reverse_replicate]
theorem parseF_mS (m : Nat) (hm : m + 2 ≤ 256) : parseF (mS m) = some ([97], List.replicate m 98) := by
  have hi : isF ([97], List.replicate m 98) = true := by
    simp only [isF, Bool.and_eq_true, decide_eq_true_eq, trim_rep, and_true]
    refine ⟨by decide, ?_⟩
    simp only [allV, List.all_eq_true]
    intro b hb
    rw [List.eq_of_mem_replicate hb]; decide
  have e1 : (mS m).takeWhile (· != 58) = [97] := by simp [mS]
  have e2 : (mS m).dropWhile (· != 58) = 58 :: List.replicate m 98 := by simp [mS]
  rw [parseF, if_neg (by rw [mS_len]; omega), if_pos (by simp [mS])]
  simp only [e1, e2, List.tail_cons, trim_rep]
  rw [hi]; rfl
theorem vals_rep (n V : Bs) (i : Nat) (h : nmEq [97] n = false) : valsL n (List.replicate i ([97], V)) = [] := by
  simp [valsL, h]
theorem frm_congr (l r : List Fd) (h1 : valsL hostN l = valsL hostN r) (h2 : valsL teN l = valsL teN r) (h3 : valsL clN l = valsL clN r) (h4 : valsL coN l = valsL coN r) (h5 : valsL exN l = valsL exN r) (b : Bool) : frmL b l = frmL b r := by
  unfold frmL restL
  rw [h1, h2, h3, h4, h5]
theorem frm_host : frmL true [([72, 111, 115, 116], [97])] = (⟨0, 0, false, false⟩, 0) := by decide +kernel
theorem frm_many (V : Bs) (i : Nat) : frmL true (([72, 111, 115, 116], [97]) :: List.replicate i ([97], V)) = (⟨0, 0, false, false⟩, 0) := by
  rw [← frm_host]
  have e : ∀ n : Bs, nmEq [97] n = false → valsL n (([72, 111, 115, 116], [97]) :: List.replicate i ([97], V)) = valsL n [([72, 111, 115, 116], [97])] := fun n hn => by
    rw [show (([72, 111, 115, 116], [97]) :: List.replicate i ([97], V) : List Fd) = [([72, 111, 115, 116], [97])] ++ List.replicate i ([97], V) from rfl, valsL_app, vals_rep n V i hn, List.append_nil]
  exact frm_congr _ _ (e _ (by decide +kernel)) (e _ (by decide +kernel)) (e _ (by decide +kernel)) (e _ (by decide +kernel)) (e _ (by decide +kernel)) _
/-- By what a head of i fields is refused. -/
def wM (m : Nat) : Nat → Int
  | 0 => 0
  | i + 1 => if wM m i = 0 ∧ (256 < m + 2 ∨ 1024 < 25 + (i + 1) * (m + 4) ∨ 24 < i + 2) then 431 else wM m i
theorem wM_two (m : Nat) : ∀ i, wM m i = 0 ∨ wM m i = 431
  | 0 => .inl rfl
  | i + 1 => by
    rw [wM]
    split
    · exact .inr rfl
    · exact wM_two m i
theorem kH2_eq : kH2 = { flds := [([72, 111, 115, 116], [97])], method := kH2.method, tgt := kH2.tgt, minor := 1, begun := true, empty := 0, bytes := 25, how := how0, whole := false, status := 0 } := by decide +kernel
def mH (m i : Nat) : HS := { flds := ([72, 111, 115, 116], [97]) :: List.replicate i ([97], List.replicate m 98), method := kH2.method, tgt := kH2.tgt, minor := 1, begun := true, empty := 0, bytes := 25 + i * (m + 4), how := how0, whole := false, status := 0 }
theorem mH_on (m i : Nat) : (mH m i).on = true := by simp [HS.on, mH]
theorem mH_hB (m i : Nat) (s : Bs) (hs : s.length ≤ 256) : hB (mH m i) s = 25 + i * (m + 4) + s.length + 2 := by
  show 25 + i * (m + 4) + min s.length 257 + 2 = _
  omega
theorem mH_step (m i : Nat) (h1 : m + 2 ≤ 256) (h2 : 25 + (i + 1) * (m + 4) ≤ 1024) (h3 : i + 2 ≤ 24) : hLine (mH m i) (mS m) = mH m (i + 1) := by
  have hb := mH_hB m i (mS m) (by rw [mS_len]; exact h1)
  rw [mS_len] at hb
  have hb2 : hB (mH m i) (mS m) = 25 + (i + 1) * (m + 4) := by rw [hb, Nat.succ_mul]; omega
  rw [hLine_on _ _ (mH_on m i), if_neg (by rw [mS_len, hb2]; omega), if_neg (by simp [mH]), if_neg (by simp [mS]), hb2, adL, parseF_mS m h1]
  simp only
  rw [if_neg (by simp [mH]; omega)]
  simp only [mH, HS.mk.injEq, and_true]
  rw [List.replicate_succ', List.cons_append]
theorem mH_stop (m i : Nat) (h : 256 < m + 2 ∨ 1024 < 25 + (i + 1) * (m + 4) ∨ 24 < i + 2) : (hLine (mH m i) (mS m)).status = 431 ∧ (hLine (mH m i) (mS m)).whole = false := by
  rw [hLine_on _ _ (mH_on m i)]
  by_cases c : 256 < (mS m).length ∨ 1024 < hB (mH m i) (mS m)
  · rw [if_pos c]
    exact ⟨rfl, rfl⟩
  · rw [if_neg c, if_neg (by simp [mH]), if_neg (by simp [mS])]
    rw [mS_len] at c
    have h1 : m + 2 ≤ 256 := by omega
    have hb := mH_hB m i (mS m) (by rw [mS_len]; exact h1)
    rw [mS_len] at hb
    rw [hb] at c
    have h3 : 24 < i + 2 := by rw [Nat.succ_mul] at h; omega
    rw [adL, parseF_mS m h1]
    simp only
    rw [if_pos (by simp [mH]; omega)]
    exact ⟨rfl, rfl⟩
theorem mH_all (m : Nat) : ∀ i, (wM m i = 0 → hLines kH2 (List.replicate i (mS m)) = mH m i) ∧ (wM m i ≠ 0 → (hLines kH2 (List.replicate i (mS m))).status = 431 ∧ (hLines kH2 (List.replicate i (mS m))).whole = false)
  | 0 => ⟨fun _ => by rw [List.replicate_zero]; show kH2 = _; rw [kH2_eq]; simp [mH], fun h => absurd rfl h⟩
  | i + 1 => by
    obtain ⟨a, b⟩ := mH_all m i
    rw [List.replicate_succ', hLines_app]
    by_cases h0 : wM m i = 0
    · rw [a h0]
      show (_ → hLine (mH m i) (mS m) = _) ∧ (_ → (hLine (mH m i) (mS m)).status = _ ∧ (hLine (mH m i) (mS m)).whole = _)
      by_cases c : 256 < m + 2 ∨ 1024 < 25 + (i + 1) * (m + 4) ∨ 24 < i + 2
      · rw [wM, if_pos ⟨h0, c⟩]
        exact ⟨fun h => absurd h (by decide), fun _ => mH_stop m i c⟩
      · rw [wM, if_neg (fun h => c h.2)]
        exact ⟨fun _ => mH_step m i (by omega) (by omega) (by omega), fun h => absurd h0 h⟩
    · obtain ⟨b1, b2⟩ := b h0
      rw [wM, if_neg (fun h => h0 h.1)]
      rw [hLines_off [mS m] _ (off_of b1 (by decide))]
      exact ⟨fun h => absurd h h0, fun _ => ⟨b1, b2⟩⟩
def mLines (m n : Nat) : List Bs := [kh1, kh2] ++ List.replicate n (mS m) ++ [[]]
def wEnd (m n : Nat) : Int := if 1024 < 25 + n * (m + 4) + 2 then 431 else wM m n
theorem many_law (m n : Nat) : (hLines hs0 (mLines m n)).status = wEnd m n ∧ (hLines hs0 (mLines m n)).whole = decide (wEnd m n = 0) := by
  rw [mLines, hLines_app, hLines_app]
  show (hLine (hLines kH2 (List.replicate n (mS m))) []).status = _ ∧ (hLine (hLines kH2 (List.replicate n (mS m))) []).whole = _
  obtain ⟨a, b⟩ := mH_all m n
  by_cases h0 : wM m n = 0
  · rw [a h0, hLine_on _ _ (mH_on m n)]
    have hb := mH_hB m n [] (by decide)
    rw [List.length_nil, Nat.add_zero] at hb
    unfold wEnd
    by_cases c : 1024 < 25 + n * (m + 4) + 2
    · rw [if_pos (.inr (by rw [hb]; exact c)), if_pos c]
      exact ⟨rfl, rfl⟩
    · rw [if_neg (by rw [hb]; simp; omega), if_neg (by simp [mH]), if_pos rfl, if_neg c, h0]
      rw [show frmL (decide (1 ≤ (mH m n).minor)) (mH m n).flds = (⟨0, 0, false, false⟩, 0) from frm_many _ _]
      exact ⟨rfl, rfl⟩
  · obtain ⟨b1, b2⟩ := b h0
    rw [hLine_off _ _ (off_of b1 (by decide)), b1, b2]
    have h431 : wM m n = 431 := (wM_two m n).resolve_left h0
    have hw : wEnd m n = 431 := by
      unfold wEnd
      split
      · rfl
      · exact h431
    rw [hw]
    exact ⟨rfl, rfl⟩
end Go.Proofs.YtmnnbfaaaifcoaaGreatDoor
