/- head: starts, all ways. -/
import Derived.Test.YtmnnbfaaaifcoaaGreatDoorHd3
namespace Go.Proofs.YtmnnbfaaaifcoaaGreatDoor
open Go.RowKit
set_option maxRecDepth 100000
set_option maxHeartbeats 4000000

theorem hd_starts (g pf : Nat) (h : HS) (s : ByteArray) (w : World) (hb : Blk w g 55 (hCells h pf)) (hs : s.size ≤ 1000) (hm : ML w) :
    Calls Tryz.prog 43 #[.pointer (some ⟨g, 0, none⟩), .string s] w (StartsPost w g pf h s.data.toList) := by
  obtain ⟨L, hL⟩ : ∃ L, L = splitL 32 s.data.toList := ⟨_, rfl⟩
  have hS := lib_split1 s 32 w (by omega) hm
  rw [← hL] at hS
  by_cases h3 : L.length = 3
  · obtain ⟨m, t, v, rfl⟩ : ∃ m t v, L = [m, t, v] := by
      match L, h3 with
      | [m, t, v], _ => exact ⟨m, t, v, rfl⟩
    have HM := Lib.hid (startL_m _ _ _ _ hL.symm)
    have HL := Lib.hid hL.symm
    have hz : ∀ p ∈ splitL 32 s.data.toList, p.length ≤ s.size := fun p hp => by rw [← len_data]; exact splitL_mem _ _ _ hp
    rw [← hL] at hz
    have z1 := hz m (by simp)
    have z2 := hz t (by simp)
    have z3 := hz v (by simp)
    clear hz hL h3
    have hT := fun w => asc_IsToken ⟨m.toArray⟩ w (by show m.length ≤ _; unfold maxLen; omega)
    rw [show (⟨m.toArray⟩ : ByteArray).data.toList = m from rfl, show (allT m && decide (0 < m.length)) = tkL m from rfl] at hT
    cases t1 : tkL m
    · have HE := Lib.hid (show startL s.data.toList = (400, [], tgt0, 0) by rw [HM.out, t1]; rfl)
      rw [t1] at hT
      clear t1 HM
      go_enter Tryz.func43, Tryz.ntmps43
      go_wp2_with fail
      refine hS.mono ?_
      rintro e w1 ⟨rfl, hr, L1⟩
      obtain ⟨x0, x1, x2⟩ := cells3 hr
      go_wp2_with fail
      refine (hT _).mono ?_
      rintro e w2 ⟨rfl, rfl⟩
      go_wp2
      go_ret
      exact starts_no hb L1 HE.out (by decide)
    · have hP := fun w => Tryz.strings_CutPrefix ⟨v.toArray⟩ ⟨#[72, 84, 84, 80, 47]⟩ w
      rw [show (⟨v.toArray⟩ : ByteArray).data.toList = v from rfl, show (⟨#[72, 84, 84, 80, 47]⟩ : ByteArray).data.toList = httpV from rfl] at hP
      have HM2 := Lib.hid (HM.out.trans (if_pos t1))
      rw [t1] at hT
      have HT1 := Lib.hid t1
      clear t1 HM
      cases p1 : Lib.hasPrefix v httpV
      · have HE := Lib.hid (show startL s.data.toList = (400, [], tgt0, 0) by rw [HM2.out, verL_no v p1])
        rw [p1] at hP
        clear p1 HM2
        go_enter Tryz.func43, Tryz.ntmps43
        go_wp2_with fail
        refine hS.mono ?_
        rintro e w1 ⟨rfl, hr, L1⟩
        obtain ⟨x0, x1, x2⟩ := cells3 hr
        go_wp2_with fail
        refine (hT _).mono ?_
        rintro e w2 ⟨rfl, rfl⟩
        go_wp2_with fail
        refine (hP _).mono ?_
        rintro e w3 ⟨rfl, rfl⟩
        go_wp2
        go_ret
        exact starts_no hb L1 HE.out (by decide)
      · obtain ⟨q1, q2⟩ := pre_take v p1
        rw [p1, q2] at hP
        by_cases h5 : (v.drop 5).length = 3
        · obtain ⟨a, d, b, hu⟩ := three_of _ h5
          have HP1 := Lib.hid p1
          have HU := Lib.hid hu
          rw [hu] at hP
          have HV := Lib.hid (verL_three v a d b q1 hu)
          clear p1 q1 q2 h5 hu
          obtain ⟨U, hU⟩ : ∃ U : ByteArray, U = ⟨[a, d, b].toArray⟩ := ⟨_, rfl⟩
          rw [← hU] at hP
          have us : U.size = 3 := by rw [hU]; rfl
          have e0 : U[0]'(by omega) = a := by subst hU; rfl
          have e1 : U[1]'(by omega) = d := by subst hU; rfl
          have e2 : U[2]'(by omega) = b := by subst hU; rfl
          have hDa := fun w => hd_isDigit a w
          have hDb := fun w => hd_isDigit b w
          clear hU
          cases da : digC a
          · have HE := Lib.hid (show startL s.data.toList = (400, [], tgt0, 0) by rw [HM2.out, HV.out, if_neg (by rw [da]; simp)])
            rw [da] at hDa
            clear HM2 HV da
            go_enter Tryz.func43, Tryz.ntmps43
            go_wp2_with fail
            refine hS.mono ?_
            rintro e w1 ⟨rfl, hr, L1⟩
            obtain ⟨x0, x1, x2⟩ := cells3 hr
            go_wp2_with fail
            refine (hT _).mono ?_
            rintro e w2 ⟨rfl, rfl⟩
            go_wp2_with fail
            refine (hP _).mono ?_
            rintro e w3 ⟨rfl, rfl⟩
            go_wp2_with fail
            refine (hDa _).mono ?_
            rintro e w4 ⟨rfl, rfl⟩
            go_wp2
            go_ret
            exact starts_no hb L1 HE.out (by decide)
          · rw [da] at hDa
            by_cases d46 : d = 46
            · subst d46
              cases db : digC b
              · have HE := Lib.hid (show startL s.data.toList = (400, [], tgt0, 0) by rw [HM2.out, HV.out, if_neg (by rw [db]; simp)])
                rw [db] at hDb
                clear HM2 HV da db
                go_enter Tryz.func43, Tryz.ntmps43
                go_wp2_with fail
                refine hS.mono ?_
                rintro e w1 ⟨rfl, hr, L1⟩
                obtain ⟨x0, x1, x2⟩ := cells3 hr
                go_wp2_with fail
                refine (hT _).mono ?_
                rintro e w2 ⟨rfl, rfl⟩
                go_wp2_with fail
                refine (hP _).mono ?_
                rintro e w3 ⟨rfl, rfl⟩
                go_wp2_with fail
                refine (hDa _).mono ?_
                rintro e w4 ⟨rfl, rfl⟩
                go_wp2_with fail
                refine (hDb _).mono ?_
                rintro e w4 ⟨rfl, rfl⟩
                go_wp2
                go_ret
                exact starts_no hb L1 HE.out (by decide)
              · rw [db] at hDb
                have hv2 := HV.out.trans (if_pos ⟨rfl, da, db⟩)
                by_cases a49 : a = 49
                · subst a49
                  exact hd_starts_go g pf h s w hb hs hm m t v b HL.out HT1.out HP1.out HU.out db
                · have HE := Lib.hid (show startL s.data.toList = (505, [], tgt0, 0) by rw [HM2.out, hv2]; simp only; rw [if_neg a49])
                  have hne := u8neH a49 (n := 49) rfl
                  have hne2 : ((a.toNat : Int) != 49) = true := by rw [bne, hne]; rfl
                  clear HM2 HV da db hv2 a49
                  go_enter Tryz.func43, Tryz.ntmps43
                  go_wp2_with fail
                  refine hS.mono ?_
                  rintro e w1 ⟨rfl, hr, L1⟩
                  obtain ⟨x0, x1, x2⟩ := cells3 hr
                  go_wp2_with fail
                  refine (hT _).mono ?_
                  rintro e w2 ⟨rfl, rfl⟩
                  go_wp2_with fail
                  refine (hP _).mono ?_
                  rintro e w3 ⟨rfl, rfl⟩
                  go_wp2_with fail
                  refine (hDa _).mono ?_
                  rintro e w4 ⟨rfl, rfl⟩
                  go_wp2_with fail
                  refine (hDb _).mono ?_
                  rintro e w4 ⟨rfl, rfl⟩
                  go_wp2
                  go_ret
                  exact starts_no hb L1 HE.out (by decide)
            · have HE := Lib.hid (show startL s.data.toList = (400, [], tgt0, 0) by rw [HM2.out, HV.out, if_neg (fun h0 => d46 h0.1)])
              have hne := u8neH d46 (n := 46) rfl
              have hne2 : ((d.toNat : Int) != 46) = true := by rw [bne, hne]; rfl
              clear HM2 HV da d46
              go_enter Tryz.func43, Tryz.ntmps43
              go_wp2_with fail
              refine hS.mono ?_
              rintro e w1 ⟨rfl, hr, L1⟩
              obtain ⟨x0, x1, x2⟩ := cells3 hr
              go_wp2_with fail
              refine (hT _).mono ?_
              rintro e w2 ⟨rfl, rfl⟩
              go_wp2_with fail
              refine (hP _).mono ?_
              rintro e w3 ⟨rfl, rfl⟩
              go_wp2_with fail
              refine (hDa _).mono ?_
              rintro e w4 ⟨rfl, rfl⟩
              go_wp2
              go_ret
              exact starts_no hb L1 HE.out (by decide)
        · have HE := Lib.hid (show startL s.data.toList = (400, [], tgt0, 0) by rw [HM2.out, verL_len v h5])
          obtain ⟨U, hU⟩ : ∃ U : ByteArray, U = ⟨(v.drop 5).toArray⟩ := ⟨_, rfl⟩
          rw [← hU] at hP
          have hs3 : ((U.size : Int) != 3) = true := by
            rw [bne_iff_ne]; intro h0; apply h5
            have : U.size = (v.drop 5).length := by rw [hU]; rfl
            omega
          clear p1 q1 q2 h5 hU HM2
          go_enter Tryz.func43, Tryz.ntmps43
          go_wp2_with fail
          refine hS.mono ?_
          rintro e w1 ⟨rfl, hr, L1⟩
          obtain ⟨x0, x1, x2⟩ := cells3 hr
          go_wp2_with fail
          refine (hT _).mono ?_
          rintro e w2 ⟨rfl, rfl⟩
          go_wp2_with fail
          refine (hP _).mono ?_
          rintro e w3 ⟨rfl, rfl⟩
          go_wp2
          go_ret
          exact starts_no hb L1 HE.out (by decide)
  · have HM := Lib.hid (startL_n s.data.toList (by rw [← hL]; exact h3))
    have h3i : ((L.length : Int) != 3) = true := by rw [bne_iff_ne]; omega
    generalize L.length = n at hS h3i
    clear hL h3
    go_enter Tryz.func43, Tryz.ntmps43
    go_wp2_with fail
    refine hS.mono ?_
    rintro e w1 ⟨rfl, hr, L1⟩
    go_wp2
    go_ret
    exact starts_no hb L1 HM.out (by decide)
end Go.Proofs.YtmnnbfaaaifcoaaGreatDoor
