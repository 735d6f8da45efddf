/- framing: length. -/
import Derived.Test.YtmnnbfaaaifcoaaGreatDoorFrm3
import Derived.Test.YtmnnbfaaaifcoaaGreatDoorAscii2
namespace Go.Proofs.YtmnnbfaaaifcoaaGreatDoor
open Go.RowKit
set_option maxRecDepth 100000
set_option maxHeartbeats 2000000

theorem sameN_all (t : List Bs) (n : Int) : sameN t = some n ↔ t ≠ [] ∧ ∀ x ∈ t, numR 10 15 x = some n := by
  cases t with
  | nil => simp [sameN]
  | cons s r =>
    rw [sameN]
    cases hs : numR 10 15 s with
    | none =>
      simp only [Option.bind_none]
      constructor
      · intro h; cases h
      · rintro ⟨-, h⟩
        have := h s (by simp)
        rw [hs] at this; cases this
    | some m =>
      simp only [Option.bind_some]
      split
      · rename_i ha
        rw [List.all_eq_true] at ha
        constructor
        · intro h
          injection h with h
          subst h
          refine ⟨by simp, fun x hx => ?_⟩
          rcases List.mem_cons.1 hx with rfl | hx
          · exact hs
          · simpa using ha x hx
        · rintro ⟨-, h⟩
          have := h s (by simp)
          rw [hs] at this
          exact this
      · rename_i ha
        constructor
        · intro h; cases h
        · rintro ⟨-, h⟩
          exfalso
          have h1 := h s (by simp)
          rw [hs] at h1
          injection h1 with h1
          subst h1
          exact ha (List.all_eq_true.2 fun x hx => by simpa using h x (by simp [hx]))
theorem sameN_one (t : List Bs) (k : Nat) (x : Bs) (n : Int) (hx : t[k]? = some x) (hn : numR 10 15 x = some n) (h : k = 0 ∨ sameN (t.take k) = some n) : sameN (t.take (k + 1)) = some n := by
  rw [sameN_all]
  rw [List.take_add_one, hx, Option.toList_some]
  refine ⟨by simp, fun y hy => ?_⟩
  rcases List.mem_append.1 hy with hy | hy
  · rcases h with h | h
    · subst h; simp at hy
    · exact ((sameN_all _ _).1 h).2 y hy
  · rw [List.mem_singleton] at hy; subst hy; exact hn
theorem sameN_no (t : List Bs) (k : Nat) (x : Bs) (n : Int) (hx : t[k]? = some x) (hn : numR 10 15 x ≠ some n) (_h0 : 0 < k) (h : sameN (t.take k) = some n) : sameN t = none := by
  cases hs : sameN t with
  | none => rfl
  | some m =>
    exfalso
    have h1 := ((sameN_all _ _).1 hs).2
    have h2 := (sameN_all _ _).1 h
    obtain ⟨y, hy⟩ := List.exists_mem_of_ne_nil _ h2.1
    have h3 := h2.2 y hy
    rw [h1 y (List.mem_of_mem_take hy)] at h3
    injection h3 with h3
    subst h3
    exact hn (h1 x (List.mem_of_getElem? hx))
theorem sameN_none (t : List Bs) (k : Nat) (x : Bs) (hx : t[k]? = some x) (hn : numR 10 15 x = none) : sameN t = none := by
  cases hs : sameN t with
  | none => rfl
  | some m =>
    exfalso
    have h1 := ((sameN_all _ _).1 hs).2 x (List.mem_of_getElem? hx)
    rw [hn] at h1; cases h1
theorem lenT_none (t : List Bs) (h : sameN t = none) : lenT t = (0, 400) := by rw [lenT, h]
theorem frm_length (A : Option Addr) (c B : Nat) (t : List Bs) (w : World) (hA : Rd w B 1 A t.length (t.map tv)) (hB : B ≤ w.heap.size) (hn : t.length ≤ 9223372036854775807) (hsz : TxSz t) :
    Calls Tryz.prog 79 #[.slice A t.length c] w (StPost w (lenT t).2 (.int .i64 (lenT t).1)) := by
  rcases Nat.eq_zero_or_pos t.length with h0 | h0
  · obtain rfl : t = [] := List.eq_nil_of_length_eq_zero h0
    go_enter Tryz.func79, Tryz.ntmps79
    go_wp2_with fail
    refine (frm_must0 400 w).mono ?_
    rintro e w3 ⟨rfl, rfl⟩
    exact ⟨rfl, .inr ⟨by decide, rfl⟩, Below.refl _ _⟩
  · have h0i : (0 : Int) < t.length := by omega
    go_enter Tryz.func79, Tryz.ntmps79
    go_wp2_with fail
    refine (frm_must1 400 w).mono ?_
    rintro e w3 ⟨rfl, rfl⟩
    go_wp2
    go_loopw [3, 14] (fun v i wr => ∃ (k : Nat) (n : Int), k ≤ t.length ∧ i = .int .i64 k ∧ v = .int .i64 n ∧ Hid (k = 0 ∨ (0 < k ∧ sameN (t.take k) = some n)) ∧ Below w.heap.size w wr) (fun _ i _ => t.length - (intOf i).toNat)
    case atStart => exact ⟨0, 0, Nat.zero_le _, rfl, rfl, Lib.hid (.inl rfl), Below.refl _ _⟩
    case round =>
      obtain ⟨k, n, hk, rfl, rfl, H, L⟩ := hrel
      by_cases hlt : k < t.length
      · obtain ⟨x, hx, -⟩ := drop_tx hlt
        have hxs := hsz x (List.mem_of_getElem? hx)
        obtain ⟨b, o, rfl, hb, x0⟩ := (hA.belowW hB L).tx k x hx
        have Hx := Lib.hid hx
        clear hx
        go_wp2_with fail
        refine (asc_Num ⟨x.toArray⟩ wr (fsz_max hxs)).mono ?_
        rw [show (⟨x.toArray⟩ : ByteArray).data.toList = x from rfl]
        cases hN : numR 10 15 x with
        | none =>
          have HR := Lib.hid (lenT_none t (sameN_none t k x Hx.out hN))
          clear hN
          rintro e w1 ⟨rfl, L1⟩
          rw [show numV none = .tuple #[.int .i64 0, .bool false] from rfl]
          go_wp2_with fail
          refine (frm_must0 400 w1).mono ?_
          rintro e w2 ⟨rfl, rfl⟩
          exact ⟨rfl, by rw [HR.out]; exact .inr ⟨by decide, rfl⟩, stepW L L1⟩
        | some m =>
          have HN := Lib.hid hN
          clear hN
          rintro e w1 ⟨rfl, L1⟩
          rw [show numV (some m) = .tuple #[.int .i64 m, .bool true] from rfl]
          have LL := stepW L L1
          clear x0
          by_cases hz : k = 0
          · subst hz
            have HT := Lib.hid (sameN_one t 0 x m Hx.out HN.out (.inl rfl))
            go_wp2_with fail
            refine (frm_must1 400 w1).mono ?_
            rintro e w2 ⟨rfl, rfl⟩
            go_wp2
            go_roundw
            case rel => exact ⟨1, m, by omega, rfl, rfl, Lib.hid (.inr ⟨by omega, HT.out⟩), LL⟩
            case measure => simp [intOf]; omega
          · have hs : sameN (t.take k) = some n := by
              rcases H.out with h | h
              · exact absurd h hz
              · exact h.2
            have hz1 : ((k : Int) == 0) = false := by rw [Bool.eq_false_iff]; intro h; have := beq_iff_eq.1 h; omega
            by_cases hmn : m = n
            · subst hmn
              have HT := Lib.hid (sameN_one t k x m Hx.out HN.out (.inr hs))
              clear hs
              go_wp2_with fail
              refine (frm_must1 400 w1).mono ?_
              rintro e w2 ⟨rfl, rfl⟩
              go_wp2
              go_roundw
              case rel => exact ⟨k + 1, m, by omega, by go_num, rfl, Lib.hid (.inr ⟨by omega, HT.out⟩), LL⟩
              case measure => simp [intOf]; omega
            · have hmn1 : (m == n) = false := by rw [Bool.eq_false_iff]; intro h; exact hmn (beq_iff_eq.1 h)
              have HR := Lib.hid (lenT_none t (sameN_no t k x n Hx.out (by rw [HN.out]; intro h; exact hmn (Option.some.inj h)) (by omega) hs))
              clear hs
              go_wp2_with fail
              refine (frm_must0 400 w1).mono ?_
              rintro e w2 ⟨rfl, rfl⟩
              exact ⟨rfl, by rw [HR.out]; exact .inr ⟨by decide, rfl⟩, LL⟩
      · have hs : sameN t = some n := by
          rcases H.out with h | h
          · omega
          · rw [List.take_of_length_le (by omega)] at h; exact h.2
        by_cases hn2 : n ≤ 2048
        · have HR := Lib.hid (show lenT t = (n, 0) by rw [lenT, hs]; exact if_pos hn2)
          clear hs
          go_wp2_with fail
          refine (frm_must1 413 wr).mono ?_
          rintro e w2 ⟨rfl, rfl⟩
          go_wp2
          go_ret
          exact ⟨by rw [HR.out]; exact .inl ⟨rfl, rfl⟩, L⟩
        · have HR := Lib.hid (show lenT t = (0, 413) by rw [lenT, hs]; exact if_neg hn2)
          clear hs
          go_wp2_with fail
          refine (frm_must0 413 wr).mono ?_
          rintro e w2 ⟨rfl, rfl⟩
          exact ⟨rfl, by rw [HR.out]; exact .inr ⟨by decide, rfl⟩, L⟩
end Go.Proofs.YtmnnbfaaaifcoaaGreatDoor
