/- ReplyReads. -/
import Derived.Test.YtmjekdnfkgalbaaGreatDoorRgG
import Derived.Test.YtmjekdnfkgalbaaGreatDoorLw18
namespace Go.Proofs.YtmjekdnfkgalbaaGreatDoor
open Go.RowKit
set_option maxRecDepth 100000
set_option maxHeartbeats 4000000

theorem go_le : ∀ (n : Nat) (x : RL) (r : Bs) (y : RL) (t : Bs), goL n x r = .ok y t → x.f.length ≤ 24 → y.f.length ≤ 24 ∧ t.length ≤ r.length
  | 0, x, r, y, t, h, _ => by simp [goL] at h
  | n + 1, x, r, y, t, h, hf => by
    rw [goQ_one] at h
    rcases hl : lineOf r with _ | ⟨s, u⟩
    · rw [hl] at h
      dsimp only at h
      split at h <;> cases h
    · have hu := line_lt r s u hl
      rw [hl] at h
      dsimp only at h
      split at h
      · cases h
      split at h
      · split at h
        · injection h with h1 h2
          subst h1; subst h2
          exact ⟨hf, by omega⟩
        · cases h
      · rename_i hs
        split at h
        · have := go_le n _ u y t h (line_24 x _ hs hf)
          exact ⟨this.1, by omega⟩
        · cases h
theorem read_le (hd : Bool) (b : Bs) : (readR hd b).1.f.length ≤ 24 ∧ (readR hd b).1.b.length ≤ b.length ∧ (readR hd b).1.p.length ≤ b.length := by
  rw [readR]
  rcases hg : goL (b.length + 1) rl0 b with _ | _ | ⟨x, t⟩
  · exact ⟨Nat.zero_le _, Nat.zero_le _, Nat.zero_le _⟩
  · exact ⟨Nat.zero_le _, Nat.zero_le _, Nat.zero_le _⟩
  · obtain ⟨h1, h2⟩ := go_le _ _ _ _ _ hg (by decide)
    rw [R3.bind_ok, bodR]
    split
    · exact ⟨h1, Nat.zero_le _, Nat.zero_le _⟩
    split
    · rcases hc : chkR (t.length + 1) [] [] t with _ | _ | ⟨y, u⟩
      · exact ⟨Nat.zero_le _, Nat.zero_le _, Nat.zero_le _⟩
      · exact ⟨Nat.zero_le _, Nat.zero_le _, Nat.zero_le _⟩
      · have := chk_le _ _ _ _ _ _ hc
        simp only [List.length_nil] at this
        exact ⟨h1, by show y.1.length ≤ _; omega, by show y.2.length ≤ _; omega⟩
    split
    · exact ⟨Nat.zero_le _, Nat.zero_le _, Nat.zero_le _⟩
    · exact ⟨h1, by show (t.take x.len).length ≤ _; rw [List.length_take]; omega, Nat.zero_le _⟩
theorem law_Reads (A : Option Addr) (n c : Nat) (b : Bs) (hd : Bool) (w : World) (hB : Rd w w.heap.size 1 A n (b.map bv)) (hnc : n ≤ c) (htz : TZ w) (ht : Tab10 w) :
    Calls Tryz.prog 5 #[.slice A n c, .bool hd] w fun e w' => e = .returned (.bool true) ∧ Below w.heap.size w w' := by
  have hbl : b.length = n := by simpa using hB.1
  subst hbl
  by_cases hn : 4000 < b.length
  · have hn' : (4000 : Int) < (b.length : Int) := by omega
    clear hn
    go_enter Tryz.func5, Tryz.ntmps5
    go_wp2_with fail
    go_ret
    exact ⟨rfl, Below.refl _ _⟩
  · have hn' : ¬ (4000 : Int) < (b.length : Int) := by omega
    have hro := law_roomy18 A b.length c b w hB (by omega)
    obtain ⟨k1, k2, k3⟩ := read_le hd b
    have hsame := read_same hd b
    have hRf := fun w' (h : Rd w' w'.heap.size 1 A b.length (b.map bv)) => r18_Read A c b hd w' h hnc (by omega)
    obtain ⟨R, hR⟩ : ∃ R, readR hd b = R := ⟨_, rfl⟩
    rw [hR] at k1 k2 k3 hsame hRf
    obtain ⟨y, cl, k, er⟩ := R
    dsimp only at k1 k2 k3
    have HN := Lib.hid (show b.length ≤ 4000 by omega)
    clear hn hR
    go_enter Tryz.func5, Tryz.ntmps5
    go_wp2_with fail
    refine hro.mono ?_
    rintro e w1 ⟨⟨A1, c1, rfl, hc1, hr1⟩, L1⟩
    obtain ⟨g1, o1, rfl, -, -⟩ := hr1.2 (by omega)
    have hcut := hr1.cutTo (k := b.length) (by omega)
    have htk : ((b ++ [171]).map bv).take (b.length * 1) = b.map bv := by
      rw [Nat.mul_one, List.map_append]
      exact List.take_left' (by simp)
    rw [htk] at hcut
    have hRd := rep_Read (some ⟨g1, o1, none⟩) c1 b hd w1 hcut (fun h => by cases h) (by have := HN.out; omega)
    rw [← hsame] at hRd
    have hcl : b.length ≤ c1 := by omega
    clear hcut htk hsame
    go_wp2_with fail
    refine hRd.mono ?_
    rintro e w2 ⟨⟨xr, Af, cf, Ab, cb, Ap, cp⟩, rfl, hxr, RX, L2⟩
    dsimp only at hxr
    subst hxr
    have N2 := stepW L1 L2
    have hr2 := hr1.belowW (Nat.le_refl _) L2
    have L2size : w1.heap.size ≤ w2.heap.size := L2.size
    clear hRd hro L1 L2
    go_wp2_with fail
    have N3 := allocW N2 (.cells #[.int .i64 xr.st, .slice Af xr.f.length cf, .slice Ab xr.b.length cb, .slice Ap xr.p.length cp] 38)
    obtain ⟨V, hV⟩ : ∃ V, V = w2.alloc (.cells #[.int .i64 xr.st, .slice Af xr.f.length cf, .slice Ab xr.b.length cb, .slice Ap xr.p.length cp] 38) := ⟨_, rfl⟩
    have BV : Blk V w2.heap.size 38 #[.int .i64 xr.st, .slice Af xr.f.length cf, .slice Ab xr.b.length cb, .slice Ap xr.p.length cp] := by rw [hV]; exact Blk.new' _ _ rfl _ _
    have LV : Below w2.heap.size w2 V := by rw [hV]; exact allocW (Below.refl _ _) _
    rw [← hV] at N3 ⊢
    have RX3 := RX.belowW LV
    have hr3 := hr2.belowW L2size LV
    clear hV RX
    refine (hRf V ((hB.below N3).more N3.size)).mono ?_
    rintro e w4 ⟨⟨yr, Ag, cg, Bb, db, Aq, cq⟩, rfl, hyr, RY, L4⟩
    dsimp only at hyr
    subst hyr
    have N4 := stepW N3 L4
    have RX4 := RX3.belowW L4
    have B4 := BV.belowW L4
    dsimp only
    obtain ⟨V2, hV2⟩ : ∃ V2, V2 = w4.alloc (.cells #[.int .i64 yr.st, .slice Ag yr.f.length cg, .slice Bb yr.b.length db, .slice Aq yr.p.length cq] 38) := ⟨_, rfl⟩
    have BV2 : Blk V2 w4.heap.size 38 #[.int .i64 yr.st, .slice Ag yr.f.length cg, .slice Bb yr.b.length db, .slice Aq yr.p.length cq] := by rw [hV2]; exact Blk.new' _ _ rfl _ _
    have LV2 : Below w4.heap.size w4 V2 := by rw [hV2]; exact allocW (Below.refl _ _) _
    have N5 := stepW N4 LV2
    have B5 := B4.belowW LV2
    have hr5 := (hr3.more (Nat.le_trans L2size LV.size)).belowW (Nat.le_refl _) L4
    have hr6 := (hr5.more L4.size).belowW (Nat.le_refl _) LV2
    have hRs := law_response18 yr Af Ag Ab Bb Ap Aq cf cg cb db cp cq V2 (RX4.belowW LV2) (RY.belowW LV2) (by omega) (by have := HN.out; omega) (by have := HN.out; omega)
    obtain ⟨j0, j1, j2, j3, -, -, -, -⟩ := B5.c4
    obtain ⟨i0, i1, i2, i3, -, -, -, -⟩ := BV2.c4
    clear hRf hr3 hr5 B4 BV RX3 RX4 RY
    go_upto_region 6 with (fail)
    rw [← hV2]
    clear hV2
    go_wp2_with fail
    refine hRs.mono ?_
    rintro e w6 ⟨rfl, L6⟩
    have N6 := stepW N5 L6
    have hr7 := ((hr6.more LV2.size).belowW (Nat.le_refl _) L6).more L6.size
    have hSt := law_stands18 (some ⟨g1, o1, none⟩) b.length c1 A c b w6 hr7 ((hB.below N6).more N6.size) hc1 (by have := HN.out; omega)
    clear hRs j0 j1 j2 j3 i0 i1 i2 i3
    go_wp2_with fail
    refine hSt.mono ?_
    rintro e w7 ⟨rfl, L7⟩
    have N7 := stepW N6 L7
    go_wp2_with fail
    refine (law_known18 _ (htz.below N7 (Nat.le_refl _)) (tab_below ht N7 (Nat.le_refl _))).mono ?_
    rintro e w8 ⟨rfl, L8⟩
    go_wp2
    go_ret
    exact ⟨rfl, stepW N7 L8⟩
end Go.Proofs.YtmjekdnfkgalbaaGreatDoor
