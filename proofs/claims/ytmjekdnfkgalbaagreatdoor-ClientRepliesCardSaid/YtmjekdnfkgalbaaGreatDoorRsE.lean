/- ClientReplies. -/
import Derived.Test.YtmjekdnfkgalbaaGreatDoorRsD
import Derived.Test.YtmjekdnfkgalbaaGreatDoorRsC
import Derived.Test.YtmjekdnfkgalbaaGreatDoorTRef
namespace Go.Proofs.YtmjekdnfkgalbaaGreatDoor
open Go.RowKit
set_option maxRecDepth 100000
set_option maxHeartbeats 4000000

theorem reps_len (b : Bs) : ∀ (ms : List Bs) (n : Nat) (l : List Rs), (∀ y ∈ l, y.f.length ≤ 24 ∧ y.b.length ≤ b.length ∧ y.p.length ≤ b.length) → l.length + ms.length ≤ 1000 → (∀ y ∈ (repsL b ms n l).1, y.f.length ≤ 24 ∧ y.b.length ≤ b.length ∧ y.p.length ≤ b.length) ∧ (repsL b ms n l).1.length ≤ 1000
  | [], n, l, h, hl => by rw [reps_nil]; exact ⟨h, by simpa using hl⟩
  | m :: ms, n, l, h, hl => by
    rw [List.length_cons] at hl
    obtain ⟨q, hq⟩ : ∃ q, n + skipW (b.length + 1) (b.drop n) = q := ⟨_, rfl⟩
    cases hp : (b.drop q).isPrefixOf contW
    · rcases hx : rdR (decide (m = headM)) (b.drop q) with _ | _ | ⟨⟨a, cl⟩, t⟩
      · rw [reps_stop b m ms n q l hq (.inr hx)]; exact ⟨h, by show l.length ≤ 1000; omega⟩
      · rw [reps_bad b m ms n q l hq hp hx]; exact ⟨fun y hy => (by cases hy), Nat.zero_le _⟩
      · rw [reps_ok b m ms n q l a cl t hq hp hx]
        obtain ⟨h1, h2, h3, h4⟩ := rdR_len _ _ _ _ hx
        rw [List.length_drop] at h3 h4
        have h' : ∀ y ∈ l ++ [a], y.f.length ≤ 24 ∧ y.b.length ≤ b.length ∧ y.p.length ≤ b.length := by
          intro y hy
          rcases List.mem_append.1 hy with h9 | h9
          · exact h y h9
          · obtain rfl : y = a := by simpa using h9
            exact ⟨h2, by dsimp only at h3; omega, by dsimp only at h4; omega⟩
        have hl' : (l ++ [a]).length = l.length + 1 := by rw [List.length_append]; rfl
        cases cl
        · exact reps_len b ms _ _ h' (by omega)
        · exact ⟨h', by show (l ++ [a]).length ≤ 1000; omega⟩
    · rw [reps_stop b m ms n q l hq (.inl hp)]; exact ⟨h, by show l.length ≤ 1000; omega⟩
theorem law_Replies (A : Option Addr) (n c : Nat) (b : Bs) (Am : Option Addr) (nm cm : Nat) (ms : List Bs) (w : World) (hB : Rd w w.heap.size 1 A n (b.map bv)) (hnc : n ≤ c)
    (hM : Rd w w.heap.size 1 Am nm (ms.map tv)) (hmc : nm ≤ cm) :
    Calls Tryz.prog 3 #[.slice A n c, .slice Am nm cm] w fun e w' => e = .returned (.bool true) ∧ Below w.heap.size w w' := by
  have hbl : b.length = n := by simpa using hB.1
  have hml : ms.length = nm := by simpa using hM.1
  subst hbl
  subst hml
  by_cases hn : 8000 < b.length
  · have hn' : (8000 : Int) < (b.length : Int) := by omega
    clear hn
    go_enter Tryz.func3, Tryz.ntmps3
    go_wp2_with fail
    go_ret
    exact ⟨rfl, Below.refl _ _⟩
  · have hn' : ¬ (8000 : Int) < (b.length : Int) := by omega
    by_cases hk : 50 < ms.length
    · have hk' : (50 : Int) < (ms.length : Int) := by omega
      clear hn hk
      go_enter Tryz.func3, Tryz.ntmps3
      go_wp2_with fail
      go_ret
      exact ⟨rfl, Below.refl _ _⟩
    · have hk' : ¬ (50 : Int) < (ms.length : Int) := by omega
      have HLn := reps_len b ms 0 [] (fun y hy => (by cases hy)) (by rw [List.length_nil]; omega)
      have HBL := Lib.hid (show b.length ≤ 8000 ∧ ms.length ≤ 50 by omega)
      clear hn hk
      go_enter Tryz.func3, Tryz.ntmps3
      have ho0 : OS (w.alloc (.cells #[] 9)) w.heap.size (.slice (some ⟨w.heap.size, 0, none⟩) 0 0) [] := Own.lit w _ rfl _ (Nat.le_refl _) 9 1 0 [] rfl (by decide)
      have La := allocW (Below.refl w.heap.size w) (.cells #[] 9)
      go_upto_region 4 with (at_builtin; refine wp_appS rfl (.tmp 20) (.tmp 21) rfl w.heap.size (.slice (some ⟨w.heap.size, 0, none⟩) 0 0) [] rfl ho0 (Below.refl _ _) Am ms.length cm _ rfl ms (hM.belowW (Nat.le_refl _) La) (by rw [List.length_nil]; have := HBL.out; omega) La.size ?_; intro v1 w1 ho1 hx1; rw [List.nil_append] at ho1; have L1 := La.trans (hx1.below ho0 (Nat.le_refl _) La.size); obtain ⟨A1, c1, hv1, hc1, -, hr1⟩ := ho1.form; subst hv1)
      have hC := cl_Replies A c b A1 c1 ms w1 ((hB.belowW (Nat.le_refl _) L1).more L1.size) hnc (by have := HBL.out; omega) hr1 hc1 (by have := HBL.out; omega)
      have hR := fun (W : World) (L : Below w.heap.size w W) => r26_Replies A c b Am cm ms W ((hB.belowW (Nat.le_refl _) L).more L.size) hnc (by have := HBL.out; omega) ((hM.belowW (Nat.le_refl _) L).more L.size) (by have := HBL.out; omega)
      obtain ⟨R, hRR⟩ : ∃ R, repsL b ms 0 [] = R := ⟨_, rfl⟩
      rw [hRR] at hC hR HLn
      obtain ⟨rl, ru, re⟩ := R
      dsimp only at HLn
      clear hRR hx1 ho1 hr1 hc1 ho0 La
      go_wp2_with fail
      refine hC.mono ?_
      rintro e w2 ⟨A2, c2, l2, rfl, hl2, hc2, R2, L2⟩
      dsimp only at hl2
      have N2 := stepW L1 L2
      clear hC L1 L2
      go_wp2_with fail
      refine (hR w2 N2).mono ?_
      rintro e w3 ⟨A3, c3, l3, rfl, hl3, hc3, R3, L3⟩
      dsimp only at hl3
      have N3 := stepW N2 L3
      have R2' := R2.belowW L3
      have hz : ∀ x ∈ l2, x.r.f.length ≤ 100000 ∧ x.r.b.length ≤ 100000 ∧ x.r.p.length ≤ 100000 := by
        intro x hx
        have := HLn.1 x.r (by rw [← hl2]; exact List.mem_map_of_mem hx)
        have := HBL.out
        omega
      have hn2 : l2.length ≤ 100000 := by
        have h := HLn.2
        rw [← hl2, List.length_map] at h
        omega
      have hS := law_responsesR A2 A3 c2 c3 l2 l3 w3 R2' R3 (hl2.trans hl3.symm) hn2 hz
      clear hR R2 R2' R3 hz hn2 HLn hl2 hl3
      generalize l2.length = n2 at *
      generalize l3.length = n3 at *
      go_wp2_with fail
      refine hS.mono ?_
      rintro e w4 ⟨rfl, L4⟩
      have N4 := stepW N3 L4
      clear hS
      go_wp2_with fail
      refine (law_known26 _).mono ?_
      rintro e w5 ⟨rfl, L5⟩
      go_wp2
      go_ret
      exact ⟨rfl, stepW N4 L5⟩
theorem law_Replies' (A : Option Addr) (n c : Nat) (b : Bs) (Am : Option Addr) (nm cm : Nat) (xs : List ByteArray) (w : World) (hB : Rd w w.heap.size 1 A n (b.map bv)) (hnc : n ≤ c)
    (hM : Rd w w.heap.size 1 Am nm (xs.map Value.string)) (hmc : nm ≤ cm) :
    Calls Tryz.prog 3 #[.slice A n c, .slice Am nm cm] w fun e w' => e = .returned (.bool true) ∧ Below w.heap.size w w' := by
  refine law_Replies A n c b Am nm cm (xs.map fun x => x.data.toList) w hB hnc ?_ hmc
  have e : (xs.map fun x => x.data.toList).map tv = xs.map Value.string := by
    rw [List.map_map]
    refine List.map_congr_left fun x _ => ?_
    show tv x.data.toList = Value.string x
    rw [tv, ← str_eta]
  rw [e]
  exact hM
end Go.Proofs.YtmjekdnfkgalbaaGreatDoor
