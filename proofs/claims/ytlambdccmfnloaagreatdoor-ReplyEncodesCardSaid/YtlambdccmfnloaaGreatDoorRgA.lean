/- usherref18: begins, right, number, own, part. -/
import Derived.Test.YtlambdccmfnloaaGreatDoorReP
import Derived.Test.YtlambdccmfnloaaGreatDoorApp
import Derived.Test.YtlambdccmfnloaaGreatDoorIs10
import Derived.Test.YtlambdccmfnloaaGreatDoorTRef
namespace Go.Proofs.YtlambdccmfnloaaGreatDoor
open Go.RowKit
set_option maxRecDepth 100000
set_option maxHeartbeats 4000000

theorem split_at'' (p : UInt8 → Bool) (r : Bs) : r = r.takeWhile p ++ r.dropWhile p := (List.takeWhile_append_dropWhile).symm
theorem take_all'' (p : UInt8 → Bool) (r : Bs) : (r.takeWhile p).all p = true := List.all_takeWhile
theorem drop_head'' (p : UInt8 → Bool) : ∀ (r : Bs) (c : UInt8) (t : Bs), r.dropWhile p = c :: t → p c = false
  | [], c, t, h => by cases h
  | e :: r, c, t, h => by
    rw [List.dropWhile_cons] at h
    split at h
    · exact drop_head'' p r c t h
    · rename_i he
      cases h
      simpa using he
theorem pfx_take (p s : Bs) (_h : p.length ≤ s.length) : p.isPrefixOf s = (s.take p.length == p) := by
  rw [Bool.eq_iff_iff, List.isPrefixOf_iff_prefix, beq_iff_eq, List.prefix_iff_eq_take]
  exact eq_comm
theorem pfx_len (p s : Bs) (h : s.length < p.length) : p.isPrefixOf s = false := by
  rw [Bool.eq_false_iff]
  intro hp
  rw [List.isPrefixOf_iff_prefix] at hp
  have := hp.length_le
  omega
theorem ext_take (s : Bs) (k : Nat) : (⟨s.toArray⟩ : ByteArray).extract 0 k = ⟨(s.take k).toArray⟩ := by
  apply str_ext
  rw [ext_to]
theorem r18_begins (s p : Bs) (w : World) (_hs : s.length ≤ 1000000) (hp : p.length ≤ 1000000) :
    Calls Tryz.prog 109 #[sv s, sv p] w fun e w' => e = .returned (.bool (p.isPrefixOf s)) ∧ w = w' := by
  have hz1 : (⟨s.toArray⟩ : ByteArray).size = s.length := size_mk' s
  have hz2 : (⟨p.toArray⟩ : ByteArray).size = p.length := size_mk' p
  rcases Nat.lt_or_ge s.length p.length with hlt | hge
  · have HE := Lib.hid (pfx_len p s hlt)
    have hd : decide (p.length ≤ s.length) = false := decide_eq_false (by omega)
    have hd2 : ¬ (p.length : Int) ≤ (s.length : Int) := by omega
    clear hz1 hz2
    go_enter Tryz.func109, Tryz.ntmps109
    go_wp2
    go_ret
    exact ⟨retB (by rw [HE.out]), rfl⟩
  · have HE := Lib.hid (pfx_take p s hge)
    have hd2 : (p.length : Int) ≤ (s.length : Int) := by omega
    have hx := ext_take s p.length
    generalize s.take p.length = t at *
    by_cases he : t = p
    · subst he
      clear hz1 hz2
      go_enter Tryz.func109, Tryz.ntmps109
      go_wp2
      go_ret
      exact ⟨retB (by rw [HE.out]; simp), rfl⟩
    · have h3 : (t == p) = false := by simpa using he
      have h4 : ¬ (t.toArray = p.toArray) := by simpa using he
      clear hz1 hz2
      go_enter Tryz.func109, Tryz.ntmps109
      go_wp2
      go_ret
      exact ⟨retB (by rw [HE.out, h3]), rfl⟩
theorem byte_ne' (c d : UInt8) (h : c ≠ d) : ((c.toNat : Int) == (d.toNat : Int)) = false := by
  rw [Bool.eq_false_iff]
  intro h0
  exact h (UInt8.toNat_inj.1 (by have := beq_iff_eq.1 h0; omega))
theorem r18_right (s : Bs) (w : World) (hs : s.length ≤ 1000000) :
    Calls Tryz.prog 160 #[sv s] w fun e w' => e = .returned (.bool (rightL s)) ∧ w = w' := by
  have hn := fun w => ref_Num ⟨s.toArray⟩ w (by show s.toArray.size ≤ _; unfold maxLen; simp; omega)
  rw [show (⟨s.toArray⟩ : ByteArray).data.toList = s from rfl] at hn
  have HR := Lib.hid (show rightL s = ((numR 10 15 s).isSome && (decide (s = [48]) || decide (s.head? ≠ some 48))) from rfl)
  rcases hnum : numR 10 15 s with _ | v
  · rw [hnum, numV] at hn
    rw [hnum] at HR
    clear hnum
    go_enter Tryz.func160, Tryz.ntmps160
    go_wp2_with fail
    refine (hn _).mono ?_
    rintro e w1 ⟨rfl, rfl⟩
    go_wp2
    go_ret
    exact ⟨retB (by rw [HR.out]; rfl), rfl⟩
  · have hne : s ≠ [] := by
      rintro rfl
      rw [numR, if_pos (.inl (by simp))] at hnum
      cases hnum
    rw [hnum, numV] at hn
    rw [hnum] at HR
    clear hnum
    rcases s with _ | ⟨c, s⟩
    · exact absurd rfl hne
    · by_cases h48 : c :: s = [48]
      · rw [h48] at hn HR ⊢
        go_enter Tryz.func160, Tryz.ntmps160
        go_wp2_with fail
        refine (hn _).mono ?_
        rintro e w1 ⟨rfl, rfl⟩
        go_wp2
        go_ret
        exact ⟨retB (by rw [HR.out]; rfl), rfl⟩
      · have h3 : (c :: s == [48]) = false := by simpa using h48
        have h4 : ¬ ((c :: s).toArray = #[48]) := by simpa using h48
        have hbs := PlainAid.get_bt ⟨(c :: s).toArray⟩
        have hb0 : PlainAid.bt ⟨(c :: s).toArray⟩ 0 = (c.toNat : Int) := by
          obtain ⟨b, h1, h2⟩ := drop_bt ⟨(c :: s).toArray⟩ 0 (by show 0 < (c :: s).toArray.size; simp)
          rw [h2]
          have : c = b := by simpa using congrArg List.head? h1
          rw [this]
        have hz : 0 < (⟨(c :: s).toArray⟩ : ByteArray).size := by show 0 < (c :: s).toArray.size; simp
        have HR2 := Lib.hid (show rightL (c :: s) = decide (c ≠ 48) by rw [HR.out]; simp only [Option.isSome_some, Bool.true_and, decide_eq_false h48, Bool.false_or, List.head?_cons]; exact decide_eq_decide.2 (by simp))
        generalize hcs : c :: s = l at *
        clear hcs h48 hne HR
        by_cases hc : c = 48
        · subst hc
          go_enter Tryz.func160, Tryz.ntmps160
          go_wp2_with fail
          refine (hn _).mono ?_
          rintro e w1 ⟨rfl, rfl⟩
          go_wp2
          go_ret
          exact ⟨retB (by rw [HR2.out]; rfl), rfl⟩
        · have hcb : ((c.toNat : Int) == 48) = false := by
            rw [Bool.eq_false_iff]
            intro h
            exact hc (UInt8.toNat_inj.1 (by have := beq_iff_eq.1 h; show c.toNat = 48; omega))
          have hcb2 : ¬ (c.toNat : Int) = 48 := by simpa using hcb
          go_enter Tryz.func160, Tryz.ntmps160
          go_wp2_with fail
          refine (hn _).mono ?_
          rintro e w1 ⟨rfl, rfl⟩
          go_wp2
          go_ret
          exact ⟨retB (by rw [HR2.out, decide_eq_true hc]; simp [hcb2]), rfl⟩
theorem last_bt' (s : Bs) (h : s ≠ []) : ∃ b, s.getLast? = some b ∧ PlainAid.bt ⟨s.toArray⟩ (s.length - 1) = (b.toNat : Int) ∧ s = s.dropLast ++ [b] := by
  obtain ⟨b, h1, h2⟩ := last_bt ⟨s.toArray⟩ (by show 0 < s.toArray.size; rw [List.size_toArray]; exact List.length_pos_iff.2 h)
  rw [show (⟨s.toArray⟩ : ByteArray).data.toList = s from rfl, show (⟨s.toArray⟩ : ByteArray).size = s.length from size_mk' s] at h1
  rw [show (⟨s.toArray⟩ : ByteArray).size = s.length from size_mk' s] at h2
  have h3 : s.getLast? = some b := by rw [h1]; simp
  have h4 : s.dropLast = s.take (s.length - 1) := List.dropLast_eq_take
  exact ⟨b, h3, h2, by rw [h4]; exact h1⟩
theorem r18_number (s : Bs) (w : World) (hs : s.length ≤ 1000000) :
    Calls Tryz.prog 111 #[sv s] w fun e w' => e = .returned (.bool (numbrL s)) ∧ w = w' := by
  rcases hse : s with _ | ⟨c, r⟩
  · go_enter Tryz.func111, Tryz.ntmps111
    go_wp2
    go_ret
    exact ⟨retB rfl, rfl⟩
  · rw [← hse]
    have hne : s ≠ [] := by rw [hse]; simp
    have hl : 1 ≤ s.length := by rw [hse]; simp
    clear hse
    obtain ⟨b, hb1, hb2, -⟩ := last_bt' s hne
    have HN := Lib.hid (show numbrL s = if s.getLast? = some 13 then rightL s.dropLast else (decide (s = []) || rightL s) from rfl)
    rw [hb1, decide_eq_false hne] at HN
    have hx := ext_take s (s.length - 1)
    rw [← List.dropLast_eq_take] at hx
    have hr1 := fun w => r18_right s w hs
    have hr2 := fun w => r18_right s.dropLast w (by rw [List.length_dropLast]; omega)
    have hbs := PlainAid.get_bt ⟨s.toArray⟩
    have hz : (⟨s.toArray⟩ : ByteArray).size = s.length := size_mk' s
    have hi1 : ((s.length : Int) - 1).toNat = s.length - 1 := by omega
    have hi2 : (0 : Int) ≤ (s.length : Int) - 1 := by omega
    have h3 : s.isEmpty = false := by cases s with | nil => exact absurd rfl hne | cons _ _ => rfl
    have h4 : ¬ (s.toArray = #[]) := by simpa using hne
    generalize s.dropLast = s1 at *
    clear hb1
    by_cases hb : b = 13
    · subst hb
      have HN2 := Lib.hid (show numbrL s = rightL s1 by rw [HN.out]; simp)
      clear HN hr1
      go_enter Tryz.func111, Tryz.ntmps111
      go_wp2_with fail
      refine (hr2 _).mono ?_
      rintro e w1 ⟨rfl, rfl⟩
      go_wp2
      go_ret
      exact ⟨retB (by rw [HN2.out]), rfl⟩
    · have hcb := byte_ne' b 13 hb
      rw [show ((13 : UInt8).toNat : Int) = 13 from rfl] at hcb
      have hcb2 : ¬ (b.toNat : Int) = 13 := by simpa using hcb
      have HN2 := Lib.hid (show numbrL s = rightL s by rw [HN.out]; simp [hb])
      clear HN hr2
      go_enter Tryz.func111, Tryz.ntmps111
      go_wp2_with fail
      refine (hr1 _).mono ?_
      rintro e w1 ⟨rfl, rfl⟩
      go_wp2
      go_ret
      exact ⟨retB (by rw [HN2.out]), rfl⟩
theorem own_ref (n : Bs) : ownN n = ((lowL n == lowL clN) || (lowL n == lowL teN) || (lowL n == lowL coN)) := by
  unfold ownN nmEq
  rw [Bool.or_comm (lowL n == lowL teN)]
theorem r18_own (s : Bs) (w : World) (hs : s.length ≤ 1000000) :
    Calls Tryz.prog 98 #[sv s] w fun e w' => e = .returned (.bool (ownN s)) ∧ Below w.heap.size w w' := by
  have h1 := fun w => rSame ⟨s.toArray⟩ ⟨clN.toArray⟩ w (by show s.length ≤ _; omega) (by decide)
  have h2 := fun w => rSame ⟨s.toArray⟩ ⟨teN.toArray⟩ w (by show s.length ≤ _; omega) (by decide)
  have h3 := fun w => rSame ⟨s.toArray⟩ ⟨coN.toArray⟩ w (by show s.length ≤ _; omega) (by decide)
  simp only at h1 h2 h3
  have HO := Lib.hid (own_ref s)
  generalize (lowL s == lowL clN) = b1 at *
  generalize (lowL s == lowL teN) = b2 at *
  generalize (lowL s == lowL coN) = b3 at *
  generalize ownN s = o at *
  cases b1
  · cases b2
    · go_enter Tryz.func98, Tryz.ntmps98
      go_wp2_with fail
      refine (h1 _).mono ?_
      rintro e w1 ⟨rfl, L1⟩
      go_wp2_with fail
      refine (h2 _).mono ?_
      rintro e w2 ⟨rfl, L2⟩
      go_wp2_with fail
      refine (h3 _).mono ?_
      rintro e w3 ⟨rfl, L3⟩
      go_wp2
      go_ret
      exact ⟨by rw [HO.out]; rfl, stepW (stepW L1 L2) L3⟩
    · go_enter Tryz.func98, Tryz.ntmps98
      go_wp2_with fail
      refine (h1 _).mono ?_
      rintro e w1 ⟨rfl, L1⟩
      go_wp2_with fail
      refine (h2 _).mono ?_
      rintro e w2 ⟨rfl, L2⟩
      go_wp2
      go_ret
      exact ⟨by rw [HO.out]; rfl, stepW L1 L2⟩
  · go_enter Tryz.func98, Tryz.ntmps98
    go_wp2_with fail
    refine (h1 _).mono ?_
    rintro e w1 ⟨rfl, L1⟩
    go_wp2
    go_ret
    exact ⟨by rw [HO.out]; rfl, L1⟩
end Go.Proofs.YtlambdccmfnloaaGreatDoor
