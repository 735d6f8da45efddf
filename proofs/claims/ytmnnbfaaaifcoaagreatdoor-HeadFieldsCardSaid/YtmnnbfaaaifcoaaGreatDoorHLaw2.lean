/- The laws HeadLines, HeadStarts. -/
import Derived.Test.YtmnnbfaaaifcoaaGreatDoorHPlay
namespace Go.Proofs.YtmnnbfaaaifcoaaGreatDoor
open Go.RowKit
set_option maxRecDepth 100000
set_option maxHeartbeats 4000000

def sumL (l : List Bs) : Nat := (l.map fun s => 1 + s.length).sum
theorem sumL_take (l : List Bs) (k : Nat) (s : Bs) (hs : l[k]? = some s) : sumL (l.take (k + 1)) = sumL (l.take k) + (1 + s.length) := by
  have hk := (List.getElem?_eq_some_iff.1 hs).1
  have e : l[k] = s := by have := List.getElem?_eq_getElem hk; rw [hs] at this; exact (Option.some.inj this).symm
  rw [List.take_succ_eq_append_getElem hk, sumL, sumL, List.map_append, List.sum_append, e]
  simp
theorem sumL_mem : ∀ (l : List Bs), l.length ≤ sumL l ∧ ∀ s ∈ l, s.length ≤ sumL l
  | [] => ⟨Nat.le_refl _, fun s hs => by cases hs⟩
  | x :: l => by
    obtain ⟨h1, h2⟩ := sumL_mem l
    have e : sumL (x :: l) = 1 + x.length + sumL l := by simp [sumL]
    refine ⟨by simp; omega, fun s hs => ?_⟩
    rcases List.mem_cons.1 hs with rfl | hs
    · omega
    · have := h2 s hs; omega
theorem law_HeadLines (A : Option Addr) (n c : Nat) (l : List Bs) (w : World) (hA : Rd w w.heap.size 1 A n (l.map tv)) (hn : n ≤ 9223372036854775807) (hz : ∀ s ∈ l, s.length ≤ 140737488355328) (hm : ML w) :
    Calls Tryz.prog 4 #[.slice A n c] w fun e w' => e = .returned (.bool true) ∧ Below w.heap.size w w' := by
  have hln : l.length = n := by simpa using hA.1
  go_enter Tryz.func4, Tryz.ntmps4
  go_wp2
  go_loopw [3, 4] (fun v i wr => ∃ (k m : Nat), k ≤ n ∧ v = .int .i64 m ∧ i = .int .i64 k ∧ Hid (m = sumL (l.take k)) ∧ m ≤ 4000 ∧ w = wr) (fun _ i _ => n - (intOf i).toNat)
  case atStart => exact ⟨0, 0, Nat.zero_le _, rfl, rfl, Lib.hid rfl, Nat.zero_le _, rfl⟩
  case round =>
    obtain ⟨k, m, hk, rfl, rfl, H, hm4, rfl⟩ := hrel
    by_cases hlt : k < n
    · obtain ⟨s, hs, -⟩ := drop_tx (l := l) (k := k) (by omega)
      have hsz := hz s (List.mem_of_getElem? hs)
      obtain ⟨b, o, rfl, hb, x0⟩ := hA.tx k s hs
      have HS := Lib.hid (sumL_take l k s hs)
      clear hs
      by_cases h4 : 4000 < m + 1 + s.length
      · go_wp2
        go_ret
        exact ⟨rfl, Below.refl _ _⟩
      · go_wp2
        go_roundw
        case rel => exact ⟨k + 1, m + 1 + s.length, by omega, by go_num, by go_num, Lib.hid (by rw [HS.out, ← H.out]; omega), by omega, by first | rfl | trivial⟩
        case measure => simp [intOf]; omega
    · have h1 : sumL l ≤ 4000 := by rw [List.take_of_length_le (by omega)] at H; rw [← H.out]; exact hm4
      obtain ⟨s1, s2⟩ := sumL_mem l
      have hn4 : n ≤ 1000000 := by omega
      have hz4 : ∀ s ∈ l, s.length ≤ 1000000 := fun s hs => Nat.le_trans (s2 s hs) (by omega)
      clear H s1 s2 h1 hz
      go_wp2_with fail
      refine (law_play A n c _ l w hA (Nat.le_refl _) hn4 hz4 hm).mono ?_
      rintro e w1 ⟨⟨g, gx, X, rfl, kx⟩, L1⟩
      go_wp2_with fail
      refine (law13_known w1 (hm.below L1 (Nat.le_refl _))).mono ?_
      rintro e w2 ⟨rfl, L2⟩
      go_wp2
      go_ret
      exact ⟨rfl, stepW L1 L2⟩
theorem law_HeadLines' (A : Option Addr) (n c : Nat) (xs : List ByteArray) (w : World) (hA : Rd w w.heap.size 1 A n (xs.map Value.string)) (hn : n ≤ 9223372036854775807) (hz : ∀ s ∈ xs, s.size ≤ 140737488355328) (hm : ML w) :
    Calls Tryz.prog 4 #[.slice A n c] w fun e w' => e = .returned (.bool true) ∧ Below w.heap.size w w' := by
  refine law_HeadLines A n c (xs.map fun x => x.data.toList) w ?_ hn (fun x hx => ?_) hm
  · have e : (xs.map fun x => x.data.toList).map tv = xs.map Value.string := by
      rw [List.map_map]
      refine List.map_congr_left fun x _ => ?_
      show tv x.data.toList = _
      rw [tv, ← str_eta]
    rw [e]; exact hA
  · obtain ⟨y, hy, rfl⟩ := List.mem_map.1 hx
    rw [len_data]; exact hz y hy
theorem hLines_off : ∀ (l : List Bs) (h : HS), h.on = false → hLines h l = h
  | [], _, _ => rfl
  | s :: l, h, ho => by
    rw [hLines, List.foldl_cons, hLine_off h s ho]
    exact hLines_off l h ho
theorem hLines_app (h : HS) (a b : List Bs) : hLines h (a ++ b) = hLines (hLines h a) b := by rw [hLines, hLines, hLines, List.foldl_append]
theorem five_off : (hLines hs0 (List.replicate 5 [])).on = false ∧ (hLines hs0 (List.replicate 5 [])).whole = false := by decide +kernel
theorem starts_law (e : Nat) (r : List Bs) : (hLines hs0 (List.replicate e [] ++ r)).whole = true → e ≤ 4 := by
  intro h
  rcases Nat.lt_or_ge 4 e with h5 | h5
  · exfalso
    obtain ⟨m, rfl⟩ : ∃ m, e = 5 + m := ⟨e - 5, by omega⟩
    rw [← List.replicate_append_replicate, List.append_assoc, hLines_app, hLines_off _ _ five_off.1, five_off.2] at h
    cases h
  · exact h5
theorem law_HeadStarts (s : ByteArray) (em : Int) (w : World) (hm : ML w) :
    Calls Tryz.prog 5 #[.string s, .int .i64 em] w fun e w' => e = .returned (.bool true) ∧ Below w.heap.size w w' := by
  by_cases hs : 600 < s.size
  · go_enter Tryz.func5, Tryz.ntmps5
    go_wp2
    go_ret
    exact ⟨rfl, Below.refl _ _⟩
  by_cases h0 : em < 0
  · go_enter Tryz.func5, Tryz.ntmps5
    go_wp2
    go_ret
    exact ⟨rfl, Below.refl _ _⟩
  by_cases h10 : 10 < em
  · go_enter Tryz.func5, Tryz.ntmps5
    go_wp2
    go_ret
    exact ⟨rfl, Below.refl _ _⟩
  obtain ⟨m, rfl⟩ : ∃ m : Nat, em = (m : Int) := ⟨em.toNat, by omega⟩
  have hm10 : m ≤ 10 := by omega
  clear h0 h10
  go_enter Tryz.func5, Tryz.ntmps5
  go_wp2
  go_loopw [5, 6] (fun v i wr => ∃ k : Nat, k ≤ m ∧ i = .int .i64 k ∧ OS wr w.heap.size v (List.replicate k []) ∧ Below w.heap.size w wr) (fun _ i _ => m - (intOf i).toNat)
  case atStart => exact ⟨0, Nat.zero_le _, rfl, OS.nil _ _, Below.refl _ _⟩
  case round =>
    obtain ⟨k, hk, rfl, ho, L⟩ := hrel
    have hsz := L.size
    have hlr : (List.replicate k ([] : Bs)).length = k := List.length_replicate
    by_cases hlt : k < m
    · have HRep := Lib.hid (show List.replicate k ([] : Bs) ++ [[]] = List.replicate (k + 1) [] from (List.replicate_succ' ..).symm)
      go_wp2_with (at_builtin; refine wp_appS1 rfl _ _ rfl w.heap.size _ _ rfl ho _ rfl ⟨#[]⟩ rfl (by omega) (by omega) ?_; intro v' w4 ho4 hx)
      go_roundw
      case rel => exact ⟨k + 1, by omega, by go_num, by rw [← HRep.out]; exact ho4, L.trans (hx.below ho (Nat.le_refl _) (by omega))⟩
      case measure => simp [intOf]; omega
    · obtain rfl : k = m := by omega
      have hr3 : Rd (wr.alloc (.cells #[.string s, .string ⟨#[72, 111, 115, 116, 58, 32, 97]⟩, .string ⟨#[]⟩] 9)) (wr.heap.size + 1) 1 (some ⟨wr.heap.size, 0, none⟩) 3 ([s.data.toList, kh2, []].map tv) := by
        have h9 := Rd.new wr _ rfl [.string s, .string ⟨#[72, 111, 115, 116, 58, 32, 97]⟩, .string ⟨#[]⟩] 9 3 1 rfl
        have e : [s.data.toList, kh2, []].map tv = [.string s, .string ⟨#[72, 111, 115, 116, 58, 32, 97]⟩, .string ⟨#[]⟩] := by
          simp only [List.map_cons, List.map_nil, tv]
          rw [← str_eta s]
          rfl
        rw [e]; exact h9
      have La := allocW (Below.refl wr.heap.size wr) (.cells #[.string s, .string ⟨#[72, 111, 115, 116, 58, 32, 97]⟩, .string ⟨#[]⟩] 9)
      have hlaw := Lib.hid (starts_law k [s.data.toList, kh2, []])
      go_wp2_with (first
        | (at_builtin; refine wp_appS rfl _ _ rfl w.heap.size _ _ rfl ho La _ 3 3 _ rfl [s.data.toList, kh2, []] hr3 (by simp; omega) hsz ?_; intro v' w4 ho4 hx)
        | fail)
      have L4 := L.trans (hx.below ho (Nat.le_refl _) hsz)
      obtain ⟨A, c, rfl, -, -, hr4⟩ := ho4.form
      refine (law_play A _ c _ _ w4 hr4 (Nat.le_refl _) (by simp; omega) (fun p hp => ?_) (hm.below L4 (Nat.le_refl _))).mono ?_
      · rcases List.mem_append.1 hp with hp | hp
        · rw [List.eq_of_mem_replicate hp]; exact Nat.zero_le _
        · simp at hp
          rcases hp with rfl | rfl | rfl
          · rw [len_data]; omega
          · decide
          · exact Nat.zero_le _
      · rintro e w5 ⟨⟨g, gx, X, rfl, kx⟩, L5⟩
        have L6 := stepW L4 L5
        obtain ⟨Af, cf, bb, BX, -⟩ := kx.parts
        have c12 := BX.cell 12
        unfold xhCells at c12
        generalize hLines hs0 (List.replicate k [] ++ [s.data.toList, kh2, []]) = H at hlaw c12
        obtain ⟨b, hb⟩ : ∃ b, b = H.whole := ⟨_, rfl⟩
        have c12' : w5.cell? ⟨gx, 12, none⟩ = some (.bool b) := by rw [hb]; exact c12
        have hb4 : b = true → k ≤ 4 := by rw [hb]; exact hlaw.out
        clear c12 hb
        cases b
        · go_wp2_with fail
          refine (law13_known w5 (hm.below L6 (Nat.le_refl _))).mono ?_
          rintro e w6 ⟨rfl, L7⟩
          go_wp2
          go_ret
          exact ⟨rfl, stepW L6 L7⟩
        · have hk4 : (k : Int) ≤ 4 := by have := hb4 rfl; omega
          clear hb4
          go_wp2_with fail
          refine (law13_known w5 (hm.below L6 (Nat.le_refl _))).mono ?_
          rintro e w6 ⟨rfl, L7⟩
          go_wp2
          go_ret
          exact ⟨rfl, stepW L6 L7⟩
end Go.Proofs.YtmnnbfaaaifcoaaGreatDoor
