/- usherref11: allowed, origin. -/
import Derived.Test.YtfpojnijjpojlaaGreatDoorTRef3
import Derived.Test.YtfpojnijjpojlaaGreatDoorTgt4
namespace Go.Proofs.YtfpojnijjpojlaaGreatDoor
open Go.RowKit
set_option maxRecDepth 100000
set_option maxHeartbeats 2000000

theorem rSame (a b : ByteArray) (w : World) (ha : a.size ≤ 140737488355328) (hb : b.size ≤ 140737488355328) :
    Calls Tryz.prog 31 #[.string a, .string b] w fun e w' => e = .returned (.bool (lowL a.data.toList == lowL b.data.toList)) ∧ Below w.heap.size w w' := by
  go_enter Tryz.func31, Tryz.ntmps31
  go_wp2_with fail
  refine (ref_LowerS a _ ha).mono ?_
  rintro e w1 ⟨rfl, h1⟩
  go_wp2_with fail
  refine (ref_LowerS b _ hb).mono ?_
  rintro e w2 ⟨rfl, h2⟩
  go_wp2
  go_ret
  exact ⟨rfl, h1.trans (h2.mono h1.size)⟩
theorem ref11_allowed (b : UInt8) (w : World) :
    Calls Tryz.prog 68 #[.int .u8 (b.toNat : Int)] w fun e w' => e = .returned (.bool (ofB orgS b)) ∧ w = w' := by
  have h8 := u8lt b
  have hi := inL_contains b orgS
  have HO := Lib.hid (show ofB orgS b = (alnumB b.toNat || inL b.toNat orgS) by rw [hi]; rfl)
  clear hi
  go_enter Tryz.func68, Tryz.ntmps68
  cases hA : alnumB b.toNat
  · go_wp2_with (first
      | (go_at_call 65; refine (ref_Alnum _ _ (by omega) h8).mono ?_; rw [hA]; rintro e w' ⟨rfl, rfl⟩)
      | (go_at_call 28; refine (ref_In _ _ _ (by decide) (by omega) h8).mono ?_; rintro e w' ⟨rfl, rfl⟩))
    go_ret
    exact ⟨retB (by rw [HO.out, hA]; rfl), rfl⟩
  · go_wp2_with (go_at_call 65; refine (ref_Alnum _ _ (by omega) h8).mono ?_; rw [hA]; rintro e w' ⟨rfl, rfl⟩)
    go_ret
    exact ⟨retB (by rw [HO.out, hA]; rfl), rfl⟩

/-- What origin says. -/
def OrgPost (l : Bs) (w : World) (e : Ending) (w' : World) : Prop :=
  (originL l = none → ∃ a b, e = .returned (.tuple #[a, b, .bool false])) ∧ (∀ p, originL l = some p → e = .returned (.tuple #[sv p, sv (sndB 63 l), .bool true])) ∧ Below w.heap.size w w'
theorem orgPost_none {l : Bs} {w w' : World} {a b : Value} (h : originL l = none) (L : Below w.heap.size w w') : OrgPost l w (.returned (.tuple #[a, b, .bool false])) w' :=
  ⟨fun _ => ⟨a, b, rfl⟩, fun p hp => (by rw [h] at hp; cases hp), L⟩
theorem orgPost_some {l p q : Bs} {w w' : World} (h : originL l = some p) (hq : q = sndB 63 l) (L : Below w.heap.size w w') : OrgPost l w (.returned (.tuple #[sv p, sv q, .bool true])) w' :=
  ⟨fun hn => (by rw [h] at hn; cases hn), fun p' hp => (by rw [h] at hp; cases hp; rw [hq]), L⟩
theorem fstB_step (c : UInt8) (l : Bs) (k : Nat) (b : UInt8) (r : Bs) (hb : l.drop k = b :: r) (hr : r = l.drop (k + 1)) (hk : k < l.length) (hc : b ≠ c) (h1 : fstB c l = l.take k ++ fstB c (l.drop k)) (h2 : sndB c l = sndB c (l.drop k)) :
    fstB c l = l.take (k + 1) ++ fstB c (l.drop (k + 1)) ∧ sndB c l = sndB c (l.drop (k + 1)) := by
  have hn : (b != c) = true := by simpa using hc
  subst hr
  refine ⟨?_, ?_⟩
  · rw [h1, hb]
    have e1 : l[k] = b := by
      have := List.drop_eq_getElem_cons hk
      rw [hb] at this
      exact (List.cons.inj this).1.symm
    rw [List.take_succ_eq_append_getElem hk, e1]
    show _ ++ fstB c (b :: _) = _
    rw [show fstB c (b :: l.drop (k + 1)) = b :: fstB c (l.drop (k + 1)) by simp [fstB, hn]]
    simp
  · rw [h2, hb]
    show sndB c (b :: _) = _
    simp [sndB, hn]
theorem fstB_hit (c : UInt8) (r : Bs) : fstB c (c :: r) = [] ∧ sndB c (c :: r) = r := by simp [fstB, sndB]
theorem fstB_nil (c : UInt8) : fstB c [] = [] ∧ sndB c [] = [] := ⟨rfl, rfl⟩

theorem ref11_origin (s : ByteArray) (w : World) (hs : s.size < 4294967281) :
    Calls Tryz.prog 30 #[.string s] w (OrgPost s.data.toList w) := by
  go_enter Tryz.func30, Tryz.ntmps30
  go_wp2
  go_loop [7] (fun i => ∃ k : Nat, k ≤ s.size ∧ i = .int .i64 k ∧ Hid (allOf orgS s.data.toList = allOf orgS (s.data.toList.drop k))) (fun i => s.size - (intOf i).toNat)
  case atStart => exact ⟨0, Nat.zero_le _, rfl, rfl⟩
  case round =>
    obtain ⟨k, hk, rfl, H⟩ := hrel
    by_cases hlt : k < s.size
    · obtain ⟨b, hb, hbt⟩ := drop_bt s k hlt
      have Hb := Lib.hid hb; clear hb
      have hbs := PlainAid.get_bt s
      have hb8 := u8lt b
      cases hO : ofB orgS b
      · have HN := Lib.hid (show originL s.data.toList = none by rw [originL, H.out, Hb.out, allOf_cons, hO]; rfl)
        go_wp2_with (go_at_call 68; refine (ref11_allowed b _).mono ?_; rw [hO]; rintro e w' ⟨rfl, rfl⟩)
        go_ret3
        exact orgPost_none HN.out (Below.refl _ _)
      · have HN := Lib.hid (show allOf orgS s.data.toList = allOf orgS (s.data.toList.drop (k + 1)) by rw [H.out, Hb.out, allOf_cons, hO]; rfl)
        go_wp2_with (go_at_call 68; refine (ref11_allowed b _).mono ?_; rw [hO]; rintro e w' ⟨rfl, rfl⟩)
        go_round
        case rel => exact ⟨k + 1, by omega, by go_num, HN⟩
        case measure => simp [intOf]; omega
    · have HA := Lib.hid (show allOf orgS s.data.toList = true by rw [H.out, drop_end s k (by omega)]; rfl)
      clear H
      go_wp2
      go_loopw [5, 6, 8] (fun x5 x6 i wr => ∃ (j q : Nat), j ≤ s.size ∧ x5 = .string s ∧ x6 = .string ⟨#[]⟩ ∧ i = .int .i64 j ∧ Hid (fstB 63 s.data.toList = s.data.toList.take j ++ fstB 63 (s.data.toList.drop j) ∧ sndB 63 s.data.toList = sndB 63 (s.data.toList.drop j)) ∧ wr = w.drewN q) (fun _ _ i _ => s.size - (intOf i).toNat)
      case atStart => exact ⟨0, 0, Nat.zero_le _, rfl, rfl, rfl, ⟨rfl, rfl⟩, rfl⟩
      case round =>
        obtain ⟨j, q, hj, rfl, rfl, rfl, HF, rfl⟩ := hrel
        by_cases hjt : j < s.size
        · obtain ⟨b, hb, hbt⟩ := drop_bt s j hjt
          have hbs := PlainAid.get_bt s
          have hb8 := u8lt b
          by_cases hb63 : b = 63
          · subst hb63
            have hq : PlainAid.bt s j = 63 := hbt
            have HP := Lib.hid (show s.data.toList.take j = fstB 63 s.data.toList by rw [HF.out.1, hb, (fstB_hit 63 _).1, List.append_nil])
            have HQ := Lib.hid (show s.data.toList.drop (j + 1) = sndB 63 s.data.toList by rw [HF.out.2, hb, (fstB_hit 63 _).2])
            clear hb hbt HF
            have q1 : IntKind.i64.wrap ((j : Int) + 1) = (j : Int) + 1 := IntWalk.i64_in _ (by omega)
            have q3 : ((j : Int) + 1).toNat = j + 1 := by omega
            have q5 : (0 : Int) ≤ (j : Int) + 1 := by omega
            have q6 : (j : Int) + 1 ≤ s.size := by omega
            go_wp2
            go_quiet (fail)
            obtain ⟨PP, hPPe⟩ : ∃ PP, PP = s.extract 0 j := ⟨_, rfl⟩
            obtain ⟨QQ, hQQe⟩ : ∃ QQ, QQ = s.extract (j + 1) s.size := ⟨_, rfl⟩
            have hPPl : PP.data.toList = fstB 63 s.data.toList := by rw [hPPe, ext_to, HP.out]
            have hQQl : QQ.data.toList = sndB 63 s.data.toList := by rw [hQQe, ext_from, HQ.out]
            have hPP : PP.size < 4294967281 := by rw [hPPe, ext_size _ _ _ (Nat.zero_le _) hj]; omega
            have HPP := Lib.hid hPPl
            have HQQ := Lib.hid hQQl
            have eP := hPPe.symm
            have eQ := hQQe.symm
            have LQ : Below w.heap.size w (w.drewN (q + nq)) := below_drewN' (Below.refl _ _) _
            have HA0 := HA
            clear hPPe hQQe hPPl hQQl hbs
            clear HA0
            cases hD : decodeL (fstB 63 s.data.toList) with
            | none =>
              have HN := Lib.hid (show originL s.data.toList = none by rw [originL, HA.out, if_pos rfl, hD]; rfl)
              go_wp2_with fail
              refine (ref11_Decode PP _ hPP).mono ?_
              rw [HPP.out, hD, decR_none]
              rintro e w1 ⟨rfl, L1⟩
              go_wp2
              go_ret3
              exact orgPost_none HN.out (stepW LQ L1)
            | some d =>
              have hdl := decodeL_len _ _ (Nat.le_refl _) d hD
              have hfl := fstB_len 63 s.data.toList
              rw [len_data] at hfl
              go_wp2_with fail
              refine (ref11_Decode PP _ hPP).mono ?_
              rw [HPP.out, hD, decR_some]
              rintro e w1 ⟨rfl, L1⟩
              have K1 := stepW LQ L1
              go_wp2_with fail
              refine (ref11_Clean ⟨d.toArray⟩ w1 (by show d.length < 4294967281; omega)).mono ?_
              rw [show (⟨d.toArray⟩ : ByteArray).data.toList = d from rfl]
              cases hC : cleanL d with
              | none =>
                have HN := Lib.hid (show originL s.data.toList = none by rw [originL, HA.out, if_pos rfl, hD, Option.bind_some, hC])
                rw [clnR_none]
                rintro e w2 ⟨rfl, L2⟩
                go_wp2
                go_ret3
                exact orgPost_none HN.out (stepW K1 L2)
              | some p =>
                have HN := Lib.hid (show originL s.data.toList = some p by rw [originL, HA.out, if_pos rfl, hD, Option.bind_some, hC])
                rw [clnR_some]
                rintro e w2 ⟨rfl, L2⟩
                go_wp2
                go_ret3
                rw [show QQ = ⟨(sndB 63 s.data.toList).toArray⟩ from str_ext HQQ.out]
                exact orgPost_some HN.out rfl (stepW K1 L2)
          · have hn := fstB_step 63 s.data.toList j b _ hb rfl (by rw [len_data]; exact hjt) hb63 HF.out.1 HF.out.2
            have HF2 := Lib.hid hn
            have hne : ((b.toNat : Int) == 63) = false := by
              rw [Bool.eq_false_iff]; intro h; exact hb63 (u8inj (by have := beq_iff_eq.1 h; simp; omega))
            clear hb hn hb63 HF
            go_wp2
            go_roundw
            case rel => exact ⟨j + 1, q, by omega, rfl, rfl, by go_num, HF2, rfl⟩
            case measure => simp [intOf]; omega
        · have HP := Lib.hid (show s.data.toList = fstB 63 s.data.toList by rw [HF.out.1, List.take_of_length_le (by rw [len_data]; omega), drop_end s j (by omega), (fstB_nil 63).1, List.append_nil])
          have HQ := Lib.hid (show ([] : Bs) = sndB 63 s.data.toList by rw [HF.out.2, drop_end s j (by omega), (fstB_nil 63).2])
          clear HF
          obtain ⟨PP, hPPe⟩ : ∃ PP, PP = s := ⟨_, rfl⟩
          have HPP := Lib.hid (show PP.data.toList = fstB 63 s.data.toList by rw [hPPe]; exact HP.out)
          subst hPPe
          have hPP : PP.size < 4294967281 := hs
          have LQ : Below w.heap.size w (w.drewN q) := below_drewN' (Below.refl _ _) _
          have HA0 := HA
          clear HA0
          cases hD : decodeL (fstB 63 PP.data.toList) with
          | none =>
            have HN := Lib.hid (show originL PP.data.toList = none by rw [originL, HA.out, if_pos rfl, hD]; rfl)
            go_wp2_with fail
            refine (ref11_Decode PP _ hPP).mono ?_
            rw [HPP.out, hD, decR_none]
            rintro e w1 ⟨rfl, L1⟩
            go_wp2
            go_ret3
            exact orgPost_none HN.out (stepW LQ L1)
          | some d =>
            have hdl := decodeL_len _ _ (Nat.le_refl _) d hD
            have hfl := fstB_len 63 PP.data.toList
            rw [len_data] at hfl
            go_wp2_with fail
            refine (ref11_Decode PP _ hPP).mono ?_
            rw [HPP.out, hD, decR_some]
            rintro e w1 ⟨rfl, L1⟩
            have K1 := stepW LQ L1
            go_wp2_with fail
            refine (ref11_Clean ⟨d.toArray⟩ w1 (by show d.length < 4294967281; omega)).mono ?_
            rw [show (⟨d.toArray⟩ : ByteArray).data.toList = d from rfl]
            cases hC : cleanL d with
            | none =>
              have HN := Lib.hid (show originL PP.data.toList = none by rw [originL, HA.out, if_pos rfl, hD, Option.bind_some, hC])
              rw [clnR_none]
              rintro e w2 ⟨rfl, L2⟩
              go_wp2
              go_ret3
              exact orgPost_none HN.out (stepW K1 L2)
            | some p =>
              have HN := Lib.hid (show originL PP.data.toList = some p by rw [originL, HA.out, if_pos rfl, hD, Option.bind_some, hC])
              rw [clnR_some]
              rintro e w2 ⟨rfl, L2⟩
              go_wp2
              go_ret3
              exact orgPost_some (q := []) HN.out HQ.out (stepW K1 L2)
end Go.Proofs.YtfpojnijjpojlaaGreatDoor
