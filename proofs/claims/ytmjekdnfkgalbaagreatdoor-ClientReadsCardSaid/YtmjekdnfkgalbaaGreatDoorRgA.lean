/- usherref18: begins, right, number, own, part. usherref18: part. usherref18: the first line. -/
import Derived.Test.YtmjekdnfkgalbaaGreatDoorReP
import Derived.Test.YtmjekdnfkgalbaaGreatDoorApp
import Derived.Test.YtmjekdnfkgalbaaGreatDoorIs10
import Derived.Test.YtmjekdnfkgalbaaGreatDoorTRef
import Derived.Test.YtmjekdnfkgalbaaGreatDoorNum
namespace Go.Proofs.YtmjekdnfkgalbaaGreatDoor
open Go.RowKit
set_option maxRecDepth 100000
set_option maxHeartbeats 4000000

theorem split_at'' (p : UInt8 → Bool) (r : Bs) : r = r.takeWhile p ++ r.dropWhile p := (List.takeWhile_append_dropWhile).symm
theorem take_all'' (p : UInt8 → Bool) (r : Bs) : (r.takeWhile p).all p = true := List.all_takeWhile
theorem drop_head'' (p : UInt8 → Bool) : ∀ (r : Bs) (c : UInt8) (t : Bs), r.dropWhile p = c :: t → p c = false
  | [], c, t, h => by cases h
  | e :: r, c, t, h => by
    rw [List.dropWhile_cons] at h
    split at h
    · exact drop_head'' p r c t h
    · rename_i he
      cases h
      simpa using he
theorem pfx_take (p s : Bs) (_h : p.length ≤ s.length) : p.isPrefixOf s = (s.take p.length == p) := by
  rw [Bool.eq_iff_iff, List.isPrefixOf_iff_prefix, beq_iff_eq, List.prefix_iff_eq_take]
  exact eq_comm
theorem pfx_len (p s : Bs) (h : s.length < p.length) : p.isPrefixOf s = false := by
  rw [Bool.eq_false_iff]
  intro hp
  rw [List.isPrefixOf_iff_prefix] at hp
  have := hp.length_le
  omega
theorem ext_take (s : Bs) (k : Nat) : (⟨s.toArray⟩ : ByteArray).extract 0 k = ⟨(s.take k).toArray⟩ := by
  apply str_ext
  rw [ext_to]
theorem r18_begins (s p : Bs) (w : World) (_hs : s.length ≤ 1000000) (hp : p.length ≤ 1000000) :
    Calls Tryz.prog 68 #[sv s, sv p] w fun e w' => e = .returned (.bool (p.isPrefixOf s)) ∧ w = w' := by
  have hz1 : (⟨s.toArray⟩ : ByteArray).size = s.length := size_mk' s
  have hz2 : (⟨p.toArray⟩ : ByteArray).size = p.length := size_mk' p
  rcases Nat.lt_or_ge s.length p.length with hlt | hge
  · have HE := Lib.hid (pfx_len p s hlt)
    have hd : decide (p.length ≤ s.length) = false := decide_eq_false (by omega)
    have hd2 : ¬ (p.length : Int) ≤ (s.length : Int) := by omega
    clear hz1 hz2
    go_enter Tryz.func68, Tryz.ntmps68
    go_wp2
    go_ret
    exact ⟨retB (by rw [HE.out]), rfl⟩
  · have HE := Lib.hid (pfx_take p s hge)
    have hd2 : (p.length : Int) ≤ (s.length : Int) := by omega
    have hx := ext_take s p.length
    generalize s.take p.length = t at *
    by_cases he : t = p
    · subst he
      clear hz1 hz2
      go_enter Tryz.func68, Tryz.ntmps68
      go_wp2
      go_ret
      exact ⟨retB (by rw [HE.out]; simp), rfl⟩
    · have h3 : (t == p) = false := by simpa using he
      have h4 : ¬ (t.toArray = p.toArray) := by simpa using he
      clear hz1 hz2
      go_enter Tryz.func68, Tryz.ntmps68
      go_wp2
      go_ret
      exact ⟨retB (by rw [HE.out, h3]), rfl⟩
theorem byte_ne' (c d : UInt8) (h : c ≠ d) : ((c.toNat : Int) == (d.toNat : Int)) = false := by
  rw [Bool.eq_false_iff]
  intro h0
  exact h (UInt8.toNat_inj.1 (by have := beq_iff_eq.1 h0; omega))
theorem r18_right (s : Bs) (w : World) (hs : s.length ≤ 1000000) :
    Calls Tryz.prog 95 #[sv s] w fun e w' => e = .returned (.bool (rightL s)) ∧ w = w' := by
  have hn := fun w => ref_Num ⟨s.toArray⟩ w (by show s.toArray.size ≤ _; unfold maxLen; simp; omega)
  rw [show (⟨s.toArray⟩ : ByteArray).data.toList = s from rfl] at hn
  have HR := Lib.hid (show rightL s = ((numR 10 15 s).isSome && (decide (s = [48]) || decide (s.head? ≠ some 48))) from rfl)
  rcases hnum : numR 10 15 s with _ | v
  · rw [hnum, numV] at hn
    rw [hnum] at HR
    clear hnum
    go_enter Tryz.func95, Tryz.ntmps95
    go_wp2_with fail
    refine (hn _).mono ?_
    rintro e w1 ⟨rfl, rfl⟩
    go_wp2
    go_ret
    exact ⟨retB (by rw [HR.out]; rfl), rfl⟩
  · have hne : s ≠ [] := by
      rintro rfl
      rw [numR, if_pos (.inl (by simp))] at hnum
      cases hnum
    rw [hnum, numV] at hn
    rw [hnum] at HR
    clear hnum
    rcases s with _ | ⟨c, s⟩
    · exact absurd rfl hne
    · by_cases h48 : c :: s = [48]
      · rw [h48] at hn HR ⊢
        go_enter Tryz.func95, Tryz.ntmps95
        go_wp2_with fail
        refine (hn _).mono ?_
        rintro e w1 ⟨rfl, rfl⟩
        go_wp2
        go_ret
        exact ⟨retB (by rw [HR.out]; rfl), rfl⟩
      · have h3 : (c :: s == [48]) = false := by simpa using h48
        have h4 : ¬ ((c :: s).toArray = #[48]) := by simpa using h48
        have hbs := PlainAid.get_bt ⟨(c :: s).toArray⟩
        have hb0 : PlainAid.bt ⟨(c :: s).toArray⟩ 0 = (c.toNat : Int) := by
          obtain ⟨b, h1, h2⟩ := drop_bt ⟨(c :: s).toArray⟩ 0 (by show 0 < (c :: s).toArray.size; simp)
          rw [h2]
          have : c = b := by simpa using congrArg List.head? h1
          rw [this]
        have hz : 0 < (⟨(c :: s).toArray⟩ : ByteArray).size := by show 0 < (c :: s).toArray.size; simp
        have HR2 := Lib.hid (show rightL (c :: s) = decide (c ≠ 48) by rw [HR.out]; simp only [Option.isSome_some, Bool.true_and, decide_eq_false h48, Bool.false_or, List.head?_cons]; exact decide_eq_decide.2 (by simp))
        generalize hcs : c :: s = l at *
        clear hcs h48 hne HR
        by_cases hc : c = 48
        · subst hc
          go_enter Tryz.func95, Tryz.ntmps95
          go_wp2_with fail
          refine (hn _).mono ?_
          rintro e w1 ⟨rfl, rfl⟩
          go_wp2
          go_ret
          exact ⟨retB (by rw [HR2.out]; rfl), rfl⟩
        · have hcb : ((c.toNat : Int) == 48) = false := by
            rw [Bool.eq_false_iff]
            intro h
            exact hc (UInt8.toNat_inj.1 (by have := beq_iff_eq.1 h; show c.toNat = 48; omega))
          have hcb2 : ¬ (c.toNat : Int) = 48 := by simpa using hcb
          go_enter Tryz.func95, Tryz.ntmps95
          go_wp2_with fail
          refine (hn _).mono ?_
          rintro e w1 ⟨rfl, rfl⟩
          go_wp2
          go_ret
          exact ⟨retB (by rw [HR2.out, decide_eq_true hc]; simp [hcb2]), rfl⟩
theorem last_bt' (s : Bs) (h : s ≠ []) : ∃ b, s.getLast? = some b ∧ PlainAid.bt ⟨s.toArray⟩ (s.length - 1) = (b.toNat : Int) ∧ s = s.dropLast ++ [b] := by
  obtain ⟨b, h1, h2⟩ := last_bt ⟨s.toArray⟩ (by show 0 < s.toArray.size; rw [List.size_toArray]; exact List.length_pos_iff.2 h)
  rw [show (⟨s.toArray⟩ : ByteArray).data.toList = s from rfl, show (⟨s.toArray⟩ : ByteArray).size = s.length from size_mk' s] at h1
  rw [show (⟨s.toArray⟩ : ByteArray).size = s.length from size_mk' s] at h2
  have h3 : s.getLast? = some b := by rw [h1]; simp
  have h4 : s.dropLast = s.take (s.length - 1) := List.dropLast_eq_take
  exact ⟨b, h3, h2, by rw [h4]; exact h1⟩
theorem r18_number (s : Bs) (w : World) (hs : s.length ≤ 1000000) :
    Calls Tryz.prog 70 #[sv s] w fun e w' => e = .returned (.bool (numbrL s)) ∧ w = w' := by
  rcases hse : s with _ | ⟨c, r⟩
  · go_enter Tryz.func70, Tryz.ntmps70
    go_wp2
    go_ret
    exact ⟨retB rfl, rfl⟩
  · rw [← hse]
    have hne : s ≠ [] := by rw [hse]; simp
    have hl : 1 ≤ s.length := by rw [hse]; simp
    clear hse
    obtain ⟨b, hb1, hb2, -⟩ := last_bt' s hne
    have HN := Lib.hid (show numbrL s = if s.getLast? = some 13 then rightL s.dropLast else (decide (s = []) || rightL s) from rfl)
    rw [hb1, decide_eq_false hne] at HN
    have hx := ext_take s (s.length - 1)
    rw [← List.dropLast_eq_take] at hx
    have hr1 := fun w => r18_right s w hs
    have hr2 := fun w => r18_right s.dropLast w (by rw [List.length_dropLast]; omega)
    have hbs := PlainAid.get_bt ⟨s.toArray⟩
    have hz : (⟨s.toArray⟩ : ByteArray).size = s.length := size_mk' s
    have hi1 : ((s.length : Int) - 1).toNat = s.length - 1 := by omega
    have hi2 : (0 : Int) ≤ (s.length : Int) - 1 := by omega
    have h3 : s.isEmpty = false := by cases s with | nil => exact absurd rfl hne | cons _ _ => rfl
    have h4 : ¬ (s.toArray = #[]) := by simpa using hne
    generalize s.dropLast = s1 at *
    clear hb1
    by_cases hb : b = 13
    · subst hb
      have HN2 := Lib.hid (show numbrL s = rightL s1 by rw [HN.out]; simp)
      clear HN hr1
      go_enter Tryz.func70, Tryz.ntmps70
      go_wp2_with fail
      refine (hr2 _).mono ?_
      rintro e w1 ⟨rfl, rfl⟩
      go_wp2
      go_ret
      exact ⟨retB (by rw [HN2.out]), rfl⟩
    · have hcb := byte_ne' b 13 hb
      rw [show ((13 : UInt8).toNat : Int) = 13 from rfl] at hcb
      have hcb2 : ¬ (b.toNat : Int) = 13 := by simpa using hcb
      have HN2 := Lib.hid (show numbrL s = rightL s by rw [HN.out]; simp [hb])
      clear HN hr2
      go_enter Tryz.func70, Tryz.ntmps70
      go_wp2_with fail
      refine (hr1 _).mono ?_
      rintro e w1 ⟨rfl, rfl⟩
      go_wp2
      go_ret
      exact ⟨retB (by rw [HN2.out]), rfl⟩
theorem own_ref (n : Bs) : ownN n = ((lowL n == lowL clN) || (lowL n == lowL teN) || (lowL n == lowL coN)) := by
  unfold ownN nmEq
  rw [Bool.or_comm (lowL n == lowL teN)]
theorem r18_own (s : Bs) (w : World) (hs : s.length ≤ 1000000) :
    Calls Tryz.prog 55 #[sv s] w fun e w' => e = .returned (.bool (ownN s)) ∧ Below w.heap.size w w' := by
  have h1 := fun w => rSame ⟨s.toArray⟩ ⟨clN.toArray⟩ w (by show s.length ≤ _; omega) (by decide)
  have h2 := fun w => rSame ⟨s.toArray⟩ ⟨teN.toArray⟩ w (by show s.length ≤ _; omega) (by decide)
  have h3 := fun w => rSame ⟨s.toArray⟩ ⟨coN.toArray⟩ w (by show s.length ≤ _; omega) (by decide)
  simp only at h1 h2 h3
  have HO := Lib.hid (own_ref s)
  generalize (lowL s == lowL clN) = b1 at *
  generalize (lowL s == lowL teN) = b2 at *
  generalize (lowL s == lowL coN) = b3 at *
  generalize ownN s = o at *
  cases b1
  · cases b2
    · go_enter Tryz.func55, Tryz.ntmps55
      go_wp2_with fail
      refine (h1 _).mono ?_
      rintro e w1 ⟨rfl, L1⟩
      go_wp2_with fail
      refine (h2 _).mono ?_
      rintro e w2 ⟨rfl, L2⟩
      go_wp2_with fail
      refine (h3 _).mono ?_
      rintro e w3 ⟨rfl, L3⟩
      go_wp2
      go_ret
      exact ⟨by rw [HO.out]; rfl, stepW (stepW L1 L2) L3⟩
    · go_enter Tryz.func55, Tryz.ntmps55
      go_wp2_with fail
      refine (h1 _).mono ?_
      rintro e w1 ⟨rfl, L1⟩
      go_wp2_with fail
      refine (h2 _).mono ?_
      rintro e w2 ⟨rfl, L2⟩
      go_wp2
      go_ret
      exact ⟨by rw [HO.out]; rfl, stepW L1 L2⟩
  · go_enter Tryz.func55, Tryz.ntmps55
    go_wp2_with fail
    refine (h1 _).mono ?_
    rintro e w1 ⟨rfl, L1⟩
    go_wp2
    go_ret
    exact ⟨by rw [HO.out]; rfl, L1⟩
end Go.Proofs.YtmjekdnfkgalbaaGreatDoor
namespace Go.Proofs.YtmjekdnfkgalbaaGreatDoor
open Go.RowKit
set_option maxRecDepth 100000
set_option maxHeartbeats 4000000

theorem ext_mid (s : Bs) (i j : Nat) : (⟨s.toArray⟩ : ByteArray).extract i j = ⟨((s.drop i).take (j - i)).toArray⟩ := by
  apply str_ext
  rw [ext_data]
theorem bt_at (s : Bs) (j : Nat) (c : UInt8) (h : s[j]? = some c) : PlainAid.bt ⟨s.toArray⟩ j = (c.toNat : Int) := by
  have hj : j < s.length := (List.getElem?_eq_some_iff.1 h).1
  obtain ⟨b, h1, h2⟩ := drop_bt ⟨s.toArray⟩ j (by show j < s.toArray.size; simpa using hj)
  rw [h2]
  have h3 : s.drop j = b :: s.drop (j + 1) := h1
  have h4 : s[j]? = some b := by rw [← List.head?_drop, h3]; rfl
  rw [h] at h4
  rw [Option.some.inj h4]
theorem partV_cons (c : UInt8) (v : Bs) : partV (c :: v) = if c = 32 then (if v.getLast? = some 13 then allV v.dropLast && decide (trimL v.dropLast = v.dropLast) else allV v && (decide (v = []) || (decide (v.head? ≠ some 32) && decide (v.head? ≠ some 9)))) else false := rfl
theorem part_cons (s : Bs) (c : UInt8) (v : Bs) (h : s.dropWhile tkB = c :: v) : partL s = if s.takeWhile tkB = [] ∨ c ≠ 58 ∨ ownN (s.takeWhile tkB) = true then false else partV v := by rw [partL, h]
theorem part_nil (s : Bs) (h : s.dropWhile tkB = []) : partL s = decide (s ≠ []) := by rw [partL, h]
theorem r18_part (s : Bs) (w : World) (hs : s.length ≤ 1000000) :
    Calls Tryz.prog 69 #[sv s] w fun e w' => e = .returned (.bool (partL s)) ∧ Below w.heap.size w w' := by
  have hsp := split_at'' tkB s
  have hall := take_all'' tkB s
  have hdh := drop_head'' tkB s
  have hP0 := Lib.hid (part_nil s)
  have hP1 := Lib.hid (part_cons s)
  generalize s.takeWhile tkB = a at *
  generalize s.dropWhile tkB = b at *
  have hbs := PlainAid.get_bt ⟨s.toArray⟩
  have hz : (⟨s.toArray⟩ : ByteArray).size = s.length := size_mk' s
  have hal : a.length ≤ s.length := by rw [hsp, List.length_append]; omega
  have hrT := fun (c : UInt8) (w : World) => ref_TokenByte (c.toNat : Int) w (by omega) (by have := u8lt c; omega)
  have HS := Lib.hid hsp
  have hbyte : ∀ j, j < a.length → ∃ c : UInt8, PlainAid.bt ⟨s.toArray⟩ j = (c.toNat : Int) ∧ tokB c.toNat = true := by
    intro j hj
    refine ⟨a[j], bt_at s j _ ?_, ?_⟩
    · rw [HS.out, List.getElem?_append_left hj, List.getElem?_eq_getElem hj]
    · rw [List.all_eq_true] at hall
      exact hall _ (List.getElem_mem hj)
  have HB := Lib.hid hbyte
  have HA := Lib.hid hall
  clear hbyte hall hsp
  go_enter Tryz.func69, Tryz.ntmps69
  go_wp2
  go_loop [3] (fun n => ∃ j : Nat, j ≤ a.length ∧ n = .int .i64 j) (fun n => a.length - (intOf n).toNat)
  case atStart => exact ⟨0, Nat.zero_le _, rfl⟩
  case round =>
    obtain ⟨j, hj, rfl⟩ := hrel
    by_cases hlt : j < a.length
    · obtain ⟨c, hbt, htk⟩ := HB.out j hlt
      have hc := fun w => hrT c w
      rw [htk] at hc
      have hjs : j < s.length := by omega
      have hji : (j : Int) < (s.length : Int) := by omega
      clear htk hrT
      go_wp2_with fail
      refine (hc _).mono ?_
      rintro e w1 ⟨rfl, rfl⟩
      go_wp2
      go_round
      case rel => exact ⟨j + 1, by omega, by go_num⟩
      case measure => simp [intOf]; omega
    · obtain rfl : j = a.length := by omega
      rcases b with _ | ⟨c, v⟩
      · have hsa : s = a := by rw [HS.out, List.append_nil]
        have hP := Lib.hid (hP0.out rfl)
        have hls : a.length = s.length := by rw [hsa]
        clear hsa hP0 hP1
        have hE := Lib.hid (show partL s = decide (0 < s.length) by
          rw [hP.out]
          exact decide_eq_decide.2 List.length_pos_iff.symm)
        rcases Nat.eq_zero_or_pos s.length with h0 | h0
        · have hd : ¬ (0 : Int) < (s.length : Int) := by omega
          have hd2 : decide ((0 : Int) < (s.length : Int)) = false := decide_eq_false hd
          have HL := Lib.hid h0
          clear h0
          go_wp2
          go_ret
          exact ⟨retB (by first | (rw [hE.out]; done) | (rw [hE.out]; simp [HL.out])), Below.refl _ _⟩
        · have hd : (0 : Int) < (s.length : Int) := by omega
          go_wp2
          go_ret
          exact ⟨retB (by rw [hE.out]; simp [h0]), Below.refl _ _⟩
      · have hP := Lib.hid (hP1.out c v rfl)
        have htc : tokB c.toNat = false := hdh c v rfl
        have hc := fun w => hrT c w
        rw [htc] at hc
        have hsl : s.length = a.length + 1 + v.length := by rw [HS.out]; simp; omega
        have hbt : PlainAid.bt ⟨s.toArray⟩ a.length = (c.toNat : Int) := bt_at s a.length c (by rw [HS.out]; simp)
        have hjs : a.length < s.length := by omega
        have hji : (a.length : Int) < (s.length : Int) := by omega
        have hjn : ¬ a.length = s.length := by omega
        have hx0 : (⟨s.toArray⟩ : ByteArray).extract 0 a.length = ⟨a.toArray⟩ := by rw [ext_take, HS.out]; simp
        have hxv : (⟨s.toArray⟩ : ByteArray).extract (a.length + 1) s.length = ⟨v.toArray⟩ := by
          rw [ext_mid]
          congr 2
          rw [HS.out, show a ++ c :: v = (a ++ [c]) ++ v by simp, show a.length + 1 = (a ++ [c]).length by simp, List.drop_left]
          refine List.take_of_length_le ?_
          simp
          omega
        have hown := fun w => r18_own a w (by omega)
        clear hP0 hP1 hdh htc hrT
        have hbt0 : a.length = 0 → PlainAid.bt ⟨s.toArray⟩ 0 = (c.toNat : Int) := fun h => by rw [← hbt, h]
        have HBT := Lib.hid hbt0
        have HSL := Lib.hid hsl
        clear hbt0 hsl
        rcases Nat.eq_zero_or_pos a.length with h0 | h0
        · have hE := Lib.hid (show partL s = false by rw [hP.out, if_pos (.inl (List.eq_nil_of_length_eq_zero h0))])
          have hbt1 := HBT.out h0
          have hs1 : (0 : Int) < (s.length : Int) := by omega
          have hs2 : 0 < s.length := by omega
          clear hP
          go_wp2_with fail
          refine (hc _).mono ?_
          rintro e w1 ⟨rfl, rfl⟩
          go_wp2
          go_ret
          exact ⟨retB (by rw [hE.out]), Below.refl _ _⟩
        · have hane : a ≠ [] := List.length_pos_iff.1 h0
          have hd : ¬ (a.length : Int) = 0 := by omega
          have hd9 : ¬ a.length = 0 := by omega
          by_cases h58 : c = 58
          · subst h58
            have hP2 := Lib.hid (show partL s = if ownN a = true then false else partV v by rw [hP.out]; simp [hane])
            clear hP hane
            generalize ownN a = oa at *
            cases oa
            · have hP3 := Lib.hid (show partL s = partV v by rw [hP2.out]; simp)
              clear hP2
              rcases v with _ | ⟨d, v⟩
              · have hE := Lib.hid (show partL s = true by rw [hP3.out]; rfl)
                go_wp2_with fail
                refine (hc _).mono ?_
                rintro e w1 ⟨rfl, rfl⟩
                go_wp2_with fail
                refine (hown _).mono ?_
                rintro e w2 ⟨rfl, L2⟩
                go_wp2
                go_ret
                exact ⟨retB (by rw [hE.out]), L2⟩
              · have hv1 : (d :: v).isEmpty = false := rfl
                have hv2 : ¬ ((d :: v).toArray = #[]) := by simp
                have hv3 : PlainAid.bt ⟨(d :: v).toArray⟩ 0 = (d.toNat : Int) := bt_at _ 0 d rfl
                have hvbs := PlainAid.get_bt ⟨(d :: v).toArray⟩
                have hvx : (⟨(d :: v).toArray⟩ : ByteArray).extract 1 (v.length + 1) = ⟨v.toArray⟩ := by
                  rw [ext_mid]
                  simp
                have hvl : v.length ≤ 1000000 := by have := HSL.out; simp at this; omega
                by_cases h32 : d = 32
                · subst h32
                  have hP4 := Lib.hid (show partL s = _ by rw [hP3.out, partV_cons, if_pos rfl])
                  have hln : ((32 : UInt8) :: v).length = v.length + 1 := rfl
                  have hVV := Lib.hid (show PlainAid.bt ⟨((32 : UInt8) :: v).toArray⟩ 0 = 32 from hv3)
                  have hv3 := hVV.out
                  generalize hV : (32 : UInt8) :: v = V at *
                  clear hV hVV
                  rcases hve : v with _ | ⟨f, vr⟩
                  · have hE := Lib.hid (show partL s = true by rw [hP4.out, hve]; rfl)
                    subst hve
                    have hiv := fun w => ref_IsValue ⟨([] : Bs).toArray⟩ w (by decide)
                    rw [show allV (⟨([] : Bs).toArray⟩ : ByteArray).data.toList = true from rfl] at hiv
                    clear hP4
                    go_wp2_with fail
                    refine (hc _).mono ?_
                    rintro e w1 ⟨rfl, rfl⟩
                    go_wp2_with fail
                    refine (hown _).mono ?_
                    rintro e w2 ⟨rfl, L2⟩
                    go_wp2_with fail
                    refine (hiv _).mono ?_
                    rintro e w3 ⟨rfl, rfl⟩
                    go_wp2
                    go_ret
                    exact ⟨retB (by rw [hE.out]), L2⟩
                  · have hvn : v ≠ [] := by rw [hve]; simp
                    have hf0 : v.head? = some f := by rw [hve]; rfl
                    have hf1 : PlainAid.bt ⟨v.toArray⟩ 0 = (f.toNat : Int) := bt_at v 0 f (by rw [hve]; rfl)
                    have hfl : 1 ≤ v.length := by rw [hve]; simp
                    clear hve
                    obtain ⟨b, hb1, hb2, -⟩ := last_bt' v hvn
                    have hw1 : v.isEmpty = false := by cases v with | nil => exact absurd rfl hvn | cons _ _ => rfl
                    have hw2 : ¬ (v.toArray = #[]) := by simpa using hvn
                    have hwx : (⟨v.toArray⟩ : ByteArray).extract 0 (v.length - 1) = ⟨v.dropLast.toArray⟩ := by rw [ext_take, ← List.dropLast_eq_take]
                    have hwbs := PlainAid.get_bt ⟨v.toArray⟩
                    have hwz : (⟨v.toArray⟩ : ByteArray).size = v.length := size_mk' v
                    have hi1 : ((v.length : Int) - 1).toNat = v.length - 1 := by omega
                    have hi2 : (0 : Int) ≤ (v.length : Int) - 1 := by omega
                    have hz0 : 0 < v.length := by omega
                    rw [hb1, hf0] at hP4
                    have hiv := fun w => ref_IsValue ⟨v.toArray⟩ w (by rw [size_mk']; unfold maxLen; omega)
                    have hid := fun w => ref_IsValue ⟨v.dropLast.toArray⟩ w (by rw [size_mk', List.length_dropLast]; unfold maxLen; omega)
                    have htd := fun w => ref_Trim' v.dropLast w (by rw [List.length_dropLast]; unfold maxLen; omega)
                    rw [show (⟨v.toArray⟩ : ByteArray).data.toList = v from rfl] at hiv
                    rw [show (⟨v.dropLast.toArray⟩ : ByteArray).data.toList = v.dropLast from rfl] at hid
                    by_cases h13 : b = 13
                    · subst h13
                      have hP5 := Lib.hid (show partL s = (allV v.dropLast && decide (trimL v.dropLast = v.dropLast)) by rw [hP4.out, if_pos rfl])
                      have hb3 : PlainAid.bt ⟨v.toArray⟩ (v.length - 1) = 13 := hb2
                      generalize v.dropLast = v2 at *
                      clear hP4 hiv hb2 hb1
                      cases hav : allV v2
                      · have hE := Lib.hid (show partL s = false by rw [hP5.out, hav]; rfl)
                        rw [hav] at hid
                        clear hP5 hav
                        go_wp2_with fail
                        refine (hc _).mono ?_
                        rintro e w1 ⟨rfl, rfl⟩
                        go_wp2_with fail
                        refine (hown _).mono ?_
                        rintro e w2 ⟨rfl, L2⟩
                        go_wp2_with fail
                        refine (hid _).mono ?_
                        rintro e w3 ⟨rfl, rfl⟩
                        go_wp2
                        go_ret
                        exact ⟨retB (by rw [hE.out]), L2⟩
                      · have hP6 := Lib.hid (show partL s = decide (trimL v2 = v2) by rw [hP5.out, hav]; rfl)
                        rw [hav] at hid
                        clear hP5 hav
                        by_cases htr : trimL v2 = v2
                        · rw [htr] at htd
                          have hE := Lib.hid (show partL s = true by rw [hP6.out, decide_eq_true htr])
                          clear hP6 htr
                          go_wp2_with fail
                          refine (hc _).mono ?_
                          rintro e w1 ⟨rfl, rfl⟩
                          go_wp2_with fail
                          refine (hown _).mono ?_
                          rintro e w2 ⟨rfl, L2⟩
                          go_wp2_with fail
                          refine (hid _).mono ?_
                          rintro e w3 ⟨rfl, rfl⟩
                          go_wp2_with fail
                          refine (htd _).mono ?_
                          rintro e w3 ⟨rfl, rfl⟩
                          go_wp2
                          go_ret
                          exact ⟨retB (by rw [hE.out]), L2⟩
                        · have hE := Lib.hid (show partL s = false by rw [hP6.out, decide_eq_false htr])
                          generalize trimL v2 = v3 at *
                          have k3 : (v3 == v2) = false := by simpa using htr
                          have k4 : ¬ (v3.toArray = v2.toArray) := by simpa using htr
                          clear hP6 htr
                          go_wp2_with fail
                          refine (hc _).mono ?_
                          rintro e w1 ⟨rfl, rfl⟩
                          go_wp2_with fail
                          refine (hown _).mono ?_
                          rintro e w2 ⟨rfl, L2⟩
                          go_wp2_with fail
                          refine (hid _).mono ?_
                          rintro e w3 ⟨rfl, rfl⟩
                          go_wp2_with fail
                          refine (htd _).mono ?_
                          rintro e w3 ⟨rfl, rfl⟩
                          go_wp2
                          go_ret
                          exact ⟨retB (by rw [hE.out]), L2⟩
                    · have hP5 := Lib.hid (show partL s = (allV v && (decide (f ≠ 32) && decide (f ≠ 9))) by
                        rw [hP4.out, if_neg (by simpa using h13), decide_eq_false hvn, Bool.false_or]
                        simp only [ne_eq, Option.some.injEq])
                      have hdb := byte_ne' b 13 h13
                      rw [show ((13 : UInt8).toNat : Int) = 13 from rfl] at hdb
                      have hdb2 : ¬ (b.toNat : Int) = 13 := by simpa using hdb
                      clear hP4 hid htd h13 hb1 hf0
                      cases hav : allV v
                      · have hE := Lib.hid (show partL s = false by rw [hP5.out, hav]; rfl)
                        rw [hav] at hiv
                        clear hP5 hav
                        go_wp2_with fail
                        refine (hc _).mono ?_
                        rintro e w1 ⟨rfl, rfl⟩
                        go_wp2_with fail
                        refine (hown _).mono ?_
                        rintro e w2 ⟨rfl, L2⟩
                        go_wp2_with fail
                        refine (hiv _).mono ?_
                        rintro e w3 ⟨rfl, rfl⟩
                        go_wp2
                        go_ret
                        exact ⟨retB (by rw [hE.out]), L2⟩
                      · have hP6 := Lib.hid (show partL s = (decide (f ≠ 32) && decide (f ≠ 9)) by rw [hP5.out, hav]; rfl)
                        rw [hav] at hiv
                        clear hP5 hav
                        by_cases hf32 : f = 32
                        · subst hf32
                          have hE := Lib.hid (show partL s = false from hP6.out)
                          have hf2 : PlainAid.bt ⟨v.toArray⟩ 0 = 32 := hf1
                          clear hP6 hf1
                          go_wp2_with fail
                          refine (hc _).mono ?_
                          rintro e w1 ⟨rfl, rfl⟩
                          go_wp2_with fail
                          refine (hown _).mono ?_
                          rintro e w2 ⟨rfl, L2⟩
                          go_wp2_with fail
                          refine (hiv _).mono ?_
                          rintro e w3 ⟨rfl, rfl⟩
                          go_wp2
                          go_ret
                          exact ⟨retB (by rw [hE.out]), L2⟩
                        · have hfb := byte_ne' f 32 hf32
                          rw [show ((32 : UInt8).toNat : Int) = 32 from rfl] at hfb
                          have hfb2 : ¬ (f.toNat : Int) = 32 := by simpa using hfb
                          by_cases hf9 : f = 9
                          · subst hf9
                            have hE := Lib.hid (show partL s = false from hP6.out)
                            have hf2 : PlainAid.bt ⟨v.toArray⟩ 0 = 9 := hf1
                            clear hP6 hf1
                            go_wp2_with fail
                            refine (hc _).mono ?_
                            rintro e w1 ⟨rfl, rfl⟩
                            go_wp2_with fail
                            refine (hown _).mono ?_
                            rintro e w2 ⟨rfl, L2⟩
                            go_wp2_with fail
                            refine (hiv _).mono ?_
                            rintro e w3 ⟨rfl, rfl⟩
                            go_wp2
                            go_ret
                            exact ⟨retB (by rw [hE.out]), L2⟩
                          · have hfb3 := byte_ne' f 9 hf9
                            rw [show ((9 : UInt8).toNat : Int) = 9 from rfl] at hfb3
                            have hfb4 : ¬ (f.toNat : Int) = 9 := by simpa using hfb3
                            have hE := Lib.hid (show partL s = true by rw [hP6.out]; simp [hf32, hf9])
                            clear hP6
                            go_wp2_with fail
                            refine (hc _).mono ?_
                            rintro e w1 ⟨rfl, rfl⟩
                            go_wp2_with fail
                            refine (hown _).mono ?_
                            rintro e w2 ⟨rfl, L2⟩
                            go_wp2_with fail
                            refine (hiv _).mono ?_
                            rintro e w3 ⟨rfl, rfl⟩
                            go_wp2
                            go_ret
                            exact ⟨retB (by rw [hE.out]; simp [hfb2, hfb4]), L2⟩
                · have hE := Lib.hid (show partL s = false by rw [hP3.out, partV_cons, if_neg h32])
                  have hdb := byte_ne' d 32 h32
                  rw [show ((32 : UInt8).toNat : Int) = 32 from rfl] at hdb
                  have hdb2 : ¬ (d.toNat : Int) = 32 := by simpa using hdb
                  have hln : (d :: v).length = v.length + 1 := rfl
                  generalize hV : d :: v = V at *
                  clear hV
                  go_wp2_with fail
                  refine (hc _).mono ?_
                  rintro e w1 ⟨rfl, rfl⟩
                  go_wp2_with fail
                  refine (hown _).mono ?_
                  rintro e w2 ⟨rfl, L2⟩
                  go_wp2
                  go_ret
                  exact ⟨retB (by rw [hE.out]), L2⟩
            · go_wp2_with fail
              refine (hc _).mono ?_
              rintro e w1 ⟨rfl, rfl⟩
              go_wp2_with fail
              refine (hown _).mono ?_
              rintro e w2 ⟨rfl, L2⟩
              go_wp2
              go_ret
              exact ⟨retB (by rw [hP2.out]; simp), L2⟩
          · have hcb := byte_ne' c 58 h58
            rw [show ((58 : UInt8).toNat : Int) = 58 from rfl] at hcb
            have hcb2 : ¬ (c.toNat : Int) = 58 := by simpa using hcb
            have hE := Lib.hid (show partL s = false by rw [hP.out, if_pos (.inr (.inl h58))])
            clear hP h58
            go_wp2_with fail
            refine (hc _).mono ?_
            rintro e w1 ⟨rfl, rfl⟩
            go_wp2
            go_ret
            exact ⟨retB (by rw [hE.out]), Below.refl _ _⟩
end Go.Proofs.YtmjekdnfkgalbaaGreatDoor
namespace Go.Proofs.YtmjekdnfkgalbaaGreatDoor
open Go.RowKit
set_option maxRecDepth 100000
set_option maxHeartbeats 4000000

theorem first_short (s : Bs) (h : s.length < 12) : firstL s = (0, false, if 9 < s.length then begB.isPrefixOf s && (decide (50 ≤ (s.getD 9 0).toNat) && decide ((s.getD 9 0).toNat ≤ 53)) && (s.drop 9).all dgB else s.isPrefixOf begB) := by rw [firstL, if_pos h]
theorem first_none (s : Bs) (h : ¬ s.length < 12) (h2 : numR 10 15 ((s.drop 9).take 3) = none) : firstL s = (0, false, false) := by rw [firstL, if_neg h, h2]
theorem first_some (s : Bs) (c : Int) (h : ¬ s.length < 12) (h2 : numR 10 15 ((s.drop 9).take 3) = some c) : firstL s = if !begB.isPrefixOf s || decide (c < 200) || decide (599 < c) then (0, false, false)
      else (c, decide (s = begB ++ digs 10 c.toNat ++ [32] ++ phraseL c), s.isPrefixOf (begB ++ digs 10 c.toNat ++ [32] ++ phraseL c ++ [13])) := by rw [firstL, if_neg h, h2]
def firstV (r : Int × Bool × Bool) : Value := .tuple #[.int .i64 r.1, .bool r.2.1, .bool r.2.2]
theorem ext_midG (s : Bs) : (⟨s.toArray⟩ : ByteArray).extract 9 12 = ⟨((s.drop 9).take 3).toArray⟩ := str_ext (by rw [ext_data])
theorem add_ruleG (a b c : Bs) (h : a ++ b = c) (hl : c.length ≤ 1000000) (w : World) : (Op.stringOp .add ⟨a.toArray⟩ ⟨b.toArray⟩).run Tryz.prog w = .ok (.string ⟨c.toArray⟩) w := by
  subst h
  rw [List.length_append] at hl
  exact run_string_add_lists w a b (by omega) (by omega)
theorem dg_iff (d : UInt8) : dgB d = (decide ((48 : Int) ≤ (d.toNat : Int)) && decide ((d.toNat : Int) ≤ 57)) := by
  rw [dgB, Bool.eq_iff_iff]
  simp only [decide_eq_true_eq, Bool.and_eq_true]
  omega
theorem r18_first (s : Bs) (w : World) (hs : s.length ≤ 1000000) :
    Calls Tryz.prog 67 #[sv s] w fun e w' => e = .returned (firstV (firstL s)) ∧ Below w.heap.size w w' := by
  have hz : (⟨s.toArray⟩ : ByteArray).size = s.length := size_mk' s
  have hbs := PlainAid.get_bt ⟨s.toArray⟩
  rcases Nat.lt_or_ge s.length 12 with h12 | h12
  · have hF := Lib.hid (first_short s h12)
    have hi12 : (s.length : Int) < 12 := by omega
    have hb1 := fun w => r18_begins begB s w (by decide) hs
    have hb2 := fun w => r18_begins s begB w hs (by decide)
    rcases Nat.lt_or_ge 9 s.length with h9 | h9
    · have hF2 := Lib.hid (show firstL s = (0, false, begB.isPrefixOf s && (decide (50 ≤ (s.getD 9 0).toNat) && decide ((s.getD 9 0).toNat ≤ 53)) && (s.drop 9).all dgB) by rw [hF.out, if_pos h9])
      have hi9 : (9 : Int) < (s.length : Int) := by omega
      obtain ⟨c, hc⟩ : ∃ c, s[9]? = some c := ⟨_, List.getElem?_eq_getElem h9⟩
      have hc9 : s.getD 9 0 = c := by rw [List.getD_eq_getElem?_getD, hc]; rfl
      rw [hc9] at hF2
      have hbt := bt_at s 9 c hc
      generalize s.isPrefixOf begB = b1 at *
      generalize begB.isPrefixOf s = b2 at *
      obtain ⟨P, hP⟩ : ∃ P, P = (b2 && (decide (50 ≤ c.toNat) && decide (c.toNat ≤ 53))) := ⟨_, rfl⟩
      rw [← hP] at hF2
      have HP := Lib.hid hP
      clear hF hc hc9 hP
      go_enter Tryz.func67, Tryz.ntmps67
      go_upto_region 5 with (first
        | (go_at_call 68
           refine (hb1 _).mono ?_
           rintro e w1 ⟨rfl, rfl⟩))
      go_cut [6] (fun v6 wx => v6 = .bool P ∧ w = wx)
      case first =>
        cases b2
        · have HP2 := Lib.hid (show P = false by rw [HP.out]; rfl)
          clear HP hb1
          go_wp2_with fail
          refine (hb2 _).mono ?_
          rintro e w1 ⟨rfl, rfl⟩
          go_wp2_with fail
          go_meet
          case rel => exact ⟨by rw [HP2.out], rfl⟩
        · by_cases h5 : (50 : Int) ≤ (c.toNat : Int)
          · by_cases h6 : (c.toNat : Int) ≤ 53
            · have HP2 := Lib.hid (show P = true by rw [HP.out, decide_eq_true (by omega : 50 ≤ c.toNat), decide_eq_true (by omega : c.toNat ≤ 53)]; rfl)
              clear HP hb1
              go_wp2_with fail
              refine (hb2 _).mono ?_
              rintro e w1 ⟨rfl, rfl⟩
              go_wp2_with fail
              go_meet
              case rel => exact ⟨by rw [HP2.out], rfl⟩
            · have HP2 := Lib.hid (show P = false by rw [HP.out, decide_eq_false (by omega : ¬ c.toNat ≤ 53), Bool.and_false, Bool.and_false])
              have h7 : decide ((c.toNat : Int) ≤ 53) = false := decide_eq_false h6
              clear HP hb1 h6
              go_wp2_with fail
              refine (hb2 _).mono ?_
              rintro e w1 ⟨rfl, rfl⟩
              go_wp2_with fail
              go_meet
              case rel => exact ⟨by rw [HP2.out], rfl⟩
          · have HP2 := Lib.hid (show P = false by rw [HP.out, decide_eq_false (by omega : ¬ 50 ≤ c.toNat), Bool.false_and, Bool.and_false])
            have h7 : decide ((50 : Int) ≤ (c.toNat : Int)) = false := decide_eq_false h5
            clear HP hb1 h5
            go_wp2_with fail
            refine (hb2 _).mono ?_
            rintro e w1 ⟨rfl, rfl⟩
            go_wp2_with fail
            go_meet
            case rel => exact ⟨by rw [HP2.out], rfl⟩
      case rest =>
        obtain ⟨rfl, rfl⟩ := hcut
        clear HP hb1 hb2 hbt
        go_wp2_with fail
        go_loopw [6, 7] (fun v6 v7 wr => ∃ (k : Nat) (o : Bool), 9 ≤ k ∧ k ≤ s.length ∧ v7 = .int .i64 k ∧ v6 = .bool o ∧ Hid ((P && (s.drop 9).all dgB) = (o && (s.drop k).all dgB)) ∧ w = wr) (fun _ v7 _ => s.length - (intOf v7).toNat)
        case atStart => exact ⟨9, P, Nat.le_refl _, by omega, rfl, rfl, rfl, rfl⟩
        case round =>
          obtain ⟨k, o, hk9, hk, rfl, rfl, H, rfl⟩ := hrel
          by_cases hlt : k < s.length
          · obtain ⟨d, hd1, hd2⟩ := drop_list s k hlt
            have hbt := bt_at s k d hd1
            have H2 : Hid ((P && (s.drop 9).all dgB) = (o && (dgB d && (s.drop (k + 1)).all dgB))) := Lib.hid (by rw [H.out, hd2, List.all_cons])
            clear hd1 hd2 H
            cases o
            · go_wp2
              go_roundw
              case rel => exact ⟨k + 1, false, by omega, by omega, by go_num, rfl, Lib.hid (by rw [H2.out]; rfl), by first | rfl | trivial⟩
              case measure => simp [intOf]; omega
            · by_cases h5 : (48 : Int) ≤ (d.toNat : Int)
              · by_cases h6 : (d.toNat : Int) ≤ 57
                · have hdg : dgB d = true := by rw [dg_iff, decide_eq_true h5, decide_eq_true h6]; rfl
                  have H3 := Lib.hid (show (P && (s.drop 9).all dgB) = (true && (s.drop (k + 1)).all dgB) by rw [H2.out, hdg, Bool.true_and])
                  clear hdg H2
                  go_wp2
                  go_roundw
                  case rel => exact ⟨k + 1, true, by omega, by omega, by go_num, rfl, H3, by first | rfl | trivial⟩
                  case measure => simp [intOf]; omega
                · have h7 : decide ((d.toNat : Int) ≤ 57) = false := decide_eq_false h6
                  have hdg : dgB d = false := by rw [dg_iff, h7, Bool.and_false]
                  clear h6
                  have H3 := Lib.hid (show (P && (s.drop 9).all dgB) = (false && (s.drop (k + 1)).all dgB) by rw [H2.out, hdg]; rfl)
                  clear hdg H2
                  go_wp2
                  go_roundw
                  case rel => exact ⟨k + 1, false, by omega, by omega, by go_num, rfl, H3, by first | rfl | trivial⟩
                  case measure => simp [intOf]; omega
              · have h7 : decide ((48 : Int) ≤ (d.toNat : Int)) = false := decide_eq_false h5
                have hdg : dgB d = false := by rw [dg_iff, h7, Bool.false_and]
                clear h5
                have H3 := Lib.hid (show (P && (s.drop 9).all dgB) = (false && (s.drop (k + 1)).all dgB) by rw [H2.out, hdg]; rfl)
                clear hdg H2
                go_wp2
                go_roundw
                case rel => exact ⟨k + 1, false, by omega, by omega, by go_num, rfl, H3, by first | rfl | trivial⟩
                case measure => simp [intOf]; omega
          · have e : s.drop k = [] := List.drop_of_length_le (by omega)
            have H3 := Lib.hid (show firstL s = (0, false, o) by rw [hF2.out, H.out, e]; simp)
            clear e H hF2
            go_wp2
            go_ret3
            exact ⟨by rw [H3.out]; rfl, Below.refl _ _⟩
    · have hE := Lib.hid (show firstL s = (0, false, s.isPrefixOf begB) by rw [hF.out, if_neg (by omega)])
      have hi9 : ¬ (9 : Int) < (s.length : Int) := by omega
      generalize s.isPrefixOf begB = b1 at *
      clear hF hb2
      go_enter Tryz.func67, Tryz.ntmps67
      go_wp2_with fail
      refine (hb1 _).mono ?_
      rintro e w1 ⟨rfl, rfl⟩
      go_wp2
      go_ret3
      exact ⟨by rw [hE.out]; rfl, Below.refl _ _⟩
  · have hi12 : ¬ (s.length : Int) < 12 := by omega
    have hx := ext_midG s
    have hsl : ((s.drop 9).take 3).length = 3 := by rw [List.length_take, List.length_drop]; omega
    have hn := fun w => ref_Num ⟨((s.drop 9).take 3).toArray⟩ w (by show ((s.drop 9).take 3).toArray.size ≤ _; unfold maxLen; simp; omega)
    rw [show (⟨((s.drop 9).take 3).toArray⟩ : ByteArray).data.toList = (s.drop 9).take 3 from rfl] at hn
    have hb2 := fun w => r18_begins s begB w hs (by decide)
    rcases hnum : numR 10 15 ((s.drop 9).take 3) with _ | c
    · have hE := Lib.hid (first_none s (by omega) hnum)
      rw [hnum, numV] at hn
      clear hnum hb2 hsl
      generalize (s.drop 9).take 3 = sub at *
      go_enter Tryz.func67, Tryz.ntmps67
      go_wp2_with fail
      refine (hn _).mono ?_
      rintro e w1 ⟨rfl, rfl⟩
      go_wp2
      go_ret3
      exact ⟨by rw [hE.out]; rfl, Below.refl _ _⟩
    · have hE := Lib.hid (first_some s c (by omega) hnum)
      rw [hnum, numV] at hn
      clear hnum hsl
      generalize (s.drop 9).take 3 = sub at *
      generalize begB.isPrefixOf s = b2 at *
      have hbad : (b2 = false ∨ (b2 = true ∧ c < 200) ∨ (b2 = true ∧ ¬ c < 200 ∧ 599 < c)) → firstL s = (0, false, false) := by
        intro h
        rw [hE.out]
        rcases h with rfl | ⟨rfl, h⟩ | ⟨rfl, h1, h2⟩
        · rfl
        · rw [decide_eq_true h]; rfl
        · rw [decide_eq_true h2, Bool.or_true]; rfl
      cases b2
      · have hE2 := Lib.hid (hbad (.inl rfl))
        clear hE hbad
        go_enter Tryz.func67, Tryz.ntmps67
        go_wp2_with fail
        refine (hn _).mono ?_
        rintro e w1 ⟨rfl, rfl⟩
        go_wp2_with fail
        refine (hb2 _).mono ?_
        rintro e w1 ⟨rfl, rfl⟩
        go_wp2
        go_ret3
        exact ⟨by rw [hE2.out]; rfl, Below.refl _ _⟩
      · by_cases h1 : c < 200
        · have hE2 := Lib.hid (hbad (.inr (.inl ⟨rfl, h1⟩)))
          clear hE hbad
          go_enter Tryz.func67, Tryz.ntmps67
          go_wp2_with fail
          refine (hn _).mono ?_
          rintro e w1 ⟨rfl, rfl⟩
          go_wp2_with fail
          refine (hb2 _).mono ?_
          rintro e w1 ⟨rfl, rfl⟩
          go_wp2
          go_ret3
          exact ⟨by rw [hE2.out]; rfl, Below.refl _ _⟩
        · by_cases h2 : 599 < c
          · have hE2 := Lib.hid (hbad (.inr (.inr ⟨rfl, h1, h2⟩)))
            clear hE hbad
            go_enter Tryz.func67, Tryz.ntmps67
            go_wp2_with fail
            refine (hn _).mono ?_
            rintro e w1 ⟨rfl, rfl⟩
            go_wp2_with fail
            refine (hb2 _).mono ?_
            rintro e w1 ⟨rfl, rfl⟩
            go_wp2
            go_ret3
            exact ⟨by rw [hE2.out]; rfl, Below.refl _ _⟩
          · have hE2 := Lib.hid (show firstL s = (c, decide (s = begB ++ digs 10 c.toNat ++ [32] ++ phraseL c), s.isPrefixOf (begB ++ digs 10 c.toNat ++ [32] ++ phraseL c ++ [13])) by rw [hE.out, decide_eq_false h1, decide_eq_false h2]; rfl)
            have hdl := digs10_len c.toNat (by omega)
            have hpl := phrase_len c
            have hD := fun w => ref_Dec c w (by omega)
            have hPh := fun w => ref_Phrase c w
            generalize digs 10 c.toNat = D at *
            generalize phraseL c = Ph at *
            obtain ⟨T1, t1⟩ : ∃ T1, begB ++ D = T1 := ⟨_, rfl⟩
            obtain ⟨T2, t2⟩ : ∃ T2, T1 ++ [32] = T2 := ⟨_, rfl⟩
            obtain ⟨T3, t3⟩ : ∃ T3, T2 ++ Ph = T3 := ⟨_, rfl⟩
            obtain ⟨T4, t4⟩ : ∃ T4, T3 ++ [13] = T4 := ⟨_, rfl⟩
            have l1 : T1.length = D.length + 9 := by rw [← t1, List.length_append]; simp [begB]; omega
            have l2 : T2.length = T1.length + 1 := by rw [← t2]; simp
            have l3 : T3.length = T2.length + Ph.length := by rw [← t3]; simp
            have l4 : T4.length = T3.length + 1 := by rw [← t4]; simp
            rw [t1, t2, t3, t4] at hE2
            have a1 : ∀ w, (Op.stringOp .add ⟨#[72, 84, 84, 80, 47, 49, 46, 49, 32]⟩ ⟨D.toArray⟩).run Tryz.prog w = .ok (.string ⟨T1.toArray⟩) w := add_ruleG begB D T1 t1 (by omega)
            have a2 : ∀ w, (Op.stringOp .add ⟨T1.toArray⟩ ⟨#[32]⟩).run Tryz.prog w = .ok (.string ⟨T2.toArray⟩) w := add_ruleG _ _ _ t2 (by omega)
            have a3 : ∀ w, (Op.stringOp .add ⟨T2.toArray⟩ ⟨Ph.toArray⟩).run Tryz.prog w = .ok (.string ⟨T3.toArray⟩) w := add_ruleG _ _ _ t3 (by omega)
            have a4 : ∀ w, (Op.stringOp .add ⟨T3.toArray⟩ ⟨#[13]⟩).run Tryz.prog w = .ok (.string ⟨T4.toArray⟩) w := add_ruleG _ _ _ t4 (by omega)
            have hb4 := fun w => r18_begins T4 s w (by omega) hs
            clear hE hbad t1 t2 t3 t4 l1 l2 l3 l4 hdl hpl
            by_cases he : s = T3
            · have hq : (s == T3) = true := by simpa using he
              have hE3 := Lib.hid (show firstL s = (c, true, s.isPrefixOf T4) by rw [hE2.out, decide_eq_true he])
              have HE := Lib.hid he
              clear hE2 he
              go_enter Tryz.func67, Tryz.ntmps67
              go_wp2_with fail
              refine (hn _).mono ?_
              rintro e w1 ⟨rfl, rfl⟩
              go_wp2_with fail
              refine (hb2 _).mono ?_
              rintro e w1 ⟨rfl, rfl⟩
              go_wp2_with fail
              refine (hD _).mono ?_
              rintro e w2 ⟨rfl, L2⟩
              go_wp2_with fail
              refine (hPh _).mono ?_
              rintro e w3 ⟨rfl, rfl⟩
              go_wp2_with fail
              refine (hb4 _).mono ?_
              rintro e w4 ⟨rfl, rfl⟩
              go_wp2
              go_ret3
              exact ⟨by rw [hE3.out]; simp [firstV, HE.out], L2⟩
            · have hq : (s == T3) = false := by simpa using he
              have hE3 := Lib.hid (show firstL s = (c, false, s.isPrefixOf T4) by rw [hE2.out, decide_eq_false he])
              have hq2 : ¬ (s.toArray = T3.toArray) := by simpa using he
              clear hE2 he
              go_enter Tryz.func67, Tryz.ntmps67
              go_wp2_with fail
              refine (hn _).mono ?_
              rintro e w1 ⟨rfl, rfl⟩
              go_wp2_with fail
              refine (hb2 _).mono ?_
              rintro e w1 ⟨rfl, rfl⟩
              go_wp2_with fail
              refine (hD _).mono ?_
              rintro e w2 ⟨rfl, L2⟩
              go_wp2_with fail
              refine (hPh _).mono ?_
              rintro e w3 ⟨rfl, rfl⟩
              go_wp2_with fail
              refine (hb4 _).mono ?_
              rintro e w4 ⟨rfl, rfl⟩
              go_wp2
              go_ret3
              exact ⟨by rw [hE3.out]; rfl, L2⟩
end Go.Proofs.YtmjekdnfkgalbaaGreatDoor
