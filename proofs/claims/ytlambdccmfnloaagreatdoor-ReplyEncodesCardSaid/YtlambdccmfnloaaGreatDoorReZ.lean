/- reply: name, fields. -/
import Derived.Test.YtlambdccmfnloaaGreatDoorReY
import Derived.Test.YtlambdccmfnloaaGreatDoorReE
namespace Go.Proofs.YtlambdccmfnloaaGreatDoor
open Go.RowKit
set_option maxRecDepth 100000
set_option maxHeartbeats 4000000

theorem name_end (ours : List Bs) (nf : Nat) (r : Bs) (h : r.dropWhile tkB = []) : nameL ours nf r = if fullL ours nf (r.takeWhile tkB) then .bad else .short := by rw [nameL, if_pos h]
theorem name_own (ours : List Bs) (nf : Nat) (r : Bs) (h : r.dropWhile tkB ≠ []) (h2 : ours.contains (r.takeWhile tkB) = true) : nameL ours nf r = .ok (r.takeWhile tkB) r := by rw [nameL, if_neg h, if_pos h2]
theorem name_bad (ours : List Bs) (nf : Nat) (r : Bs) (h : r.dropWhile tkB ≠ []) (h2 : ours.contains (r.takeWhile tkB) = false) (h3 : (decide (r.takeWhile tkB = []) || ownN (r.takeWhile tkB) || decide (24 ≤ nf)) = true) : nameL ours nf r = .bad := by rw [nameL, if_neg h, if_neg (by simpa using h2), if_pos h3]
theorem name_go (ours : List Bs) (nf : Nat) (r : Bs) (h : r.dropWhile tkB ≠ []) (h2 : ours.contains (r.takeWhile tkB) = false) (h3 : (decide (r.takeWhile tkB = []) || ownN (r.takeWhile tkB) || decide (24 ≤ nf)) = false) : nameL ours nf r = (textL csB (r.dropWhile tkB)).bind fun _ t => .ok (r.takeWhile tkB) t := by rw [nameL, if_neg h, if_neg (by simpa using h2), if_neg (by simpa using h3)]
def fullJ (ours : List Bs) (nf : Nat) (s : Bs) (j : Nat) : Bool := decide (24 ≤ nf) && (ours.take j).all fun o => !s.isPrefixOf o
theorem rd_name (A : Option Addr) (n c : Nat) (ours : List Bs) {w : World} {g : Nat} {P : Bs} {hd : Bool} {s : RSt} (q : RdT w g P hd s) (hP : P.length ≤ 1000000) (hA : Rd w w.heap.size 1 A n (ours.map tv)) (hne : ∀ b o, A = some ⟨b, o, none⟩ → b ≠ g) (hn : n ≤ 2) :
    Calls Tryz.prog 152 #[.pointer (some ⟨g, 0, none⟩), .slice A n c] w fun e w' => RPost w g P hd (nameL ours s.f.length s.r) (fun a => sv a) (fun _ r => { s with r := r }) e w' ∧ FrA g w w' := by
  have hgl := q.lt
  have hg : g ≤ w.heap.size := Nat.le_of_lt q.lt
  have hln : ours.length = n := by simpa using hA.1
  have hwh := rd_while 189 tkB is_token P.length q hP hP
  obtain ⟨x, k, q⟩ := q
  obtain ⟨j0, j1, -, -, j4, -⟩ := q.c8
  have hsp : spanL tkB P.length s.r = s.r.takeWhile tkB := span_all tkB _ _ (by have := q.at_; omega)
  rw [hsp] at hwh
  have hdr := drop_span tkB s.r
  have hal : (s.r.takeWhile tkB).length ≤ 1000000 := by
    have h1 := (List.takeWhile_sublist tkB (l := s.r)).length_le
    have := q.at_; omega
  have hV1 := Lib.hid (name_end ours s.f.length s.r)
  have hV2 := Lib.hid (name_own ours s.f.length s.r)
  have hV3 := Lib.hid (name_bad ours s.f.length s.r)
  have hV4 := Lib.hid (name_go ours s.f.length s.r)
  generalize s.r.takeWhile tkB = a at *
  generalize s.r.dropWhile tkB = b at *
  have HD := Lib.hid hdr
  clear hsp hdr
  obtain ⟨Af, cf, hvf, -, -, -⟩ := q.of_.form
  rw [hvf] at j4
  clear hvf
  obtain ⟨F0, hF0⟩ : ∃ b, decide (24 ≤ (s.f.length : Int)) = b := ⟨_, rfl⟩
  have HF0 := Lib.hid (show decide (24 ≤ s.f.length) = F0 by rw [← hF0]; exact decide_eq_decide.2 (by omega))
  go_enter Tryz.func152, Tryz.ntmps152
  go_wp2_with fail
  refine hwh.mono ?_
  rintro e w1 ⟨rfl, q1, F1⟩
  obtain ⟨x1, k1, q1⟩ := q1
  obtain ⟨i0, i1, -, -, i4, -⟩ := q1.c8
  obtain ⟨Ag, cg, hvg, -, -, -⟩ := q1.of_.form
  rw [hvg] at i4
  clear hvg hwh j0 j1 j4
  have hA1 : Rd w1 w1.heap.size 1 A n (ours.map tv) := by
    refine ⟨hA.1, fun h0 => ?_⟩
    obtain ⟨bb, o, e, hb, hc⟩ := hA.2 h0
    exact ⟨bb, o, e, Nat.lt_of_lt_of_le hb F1.fr.size, fun j u hu => (F1.fr.cell (p := ⟨bb, o + j, none⟩) hb (hne _ _ e)).trans (hc j u hu)⟩
  have hk1 := q1.at_
  simp only [HD.out] at hk1
  rcases b with _ | ⟨d, b⟩
  · have hV := Lib.hid (hV1.out rfl)
    obtain rfl : k1 = P.length := by simpa using hk1
    have HD2 := Lib.hid (fun j => show fullJ ours s.f.length a j = (F0 && (ours.take j).all fun o => !a.isPrefixOf o) by rw [← HF0.out]; rfl)
    clear hk1 hV1 hV2 hV3 hV4 q1
    go_wp2_with fail
    go_quiet (fail)
    have F2 := F1.drewN nq
    have hA2 := hA1.drewN nq
    obtain ⟨W, hW⟩ : ∃ W, W = w1.drewN nq := ⟨_, rfl⟩
    rw [← hW] at F2 hA2 ⊢
    clear hW F1 hA1 i0 i1 i4
    go_wp2_with fail
    go_loop [42, 7] (fun i f => ∃ j : Nat, j ≤ n ∧ i = .int .i64 j ∧ f = .bool (fullJ ours s.f.length a j)) (fun i _ => n - (intOf i).toNat)
    case atStart => exact ⟨0, Nat.zero_le _, rfl, by rw [HD2.out]; simp⟩
    case round =>
      obtain ⟨j, hj, rfl, rfl⟩ := hrel
      by_cases hlt : j < n
      · obtain ⟨bb, o, rfl, hbb, hcc⟩ := hA2.2 (by omega)
        obtain ⟨ob, hob⟩ : ∃ ob, ours[j]? = some ob := ⟨_, List.getElem?_eq_getElem (by omega)⟩
        have hcell := hcc j (tv ob) (by rw [List.getElem?_map, hob]; rfl)
        have HN := Lib.hid (show fullJ ours s.f.length a (j + 1) = (fullJ ours s.f.length a j && !a.isPrefixOf ob) by rw [HD2.out, HD2.out, List.take_add_one, hob]; simp [Bool.and_assoc])
        have hpf := fun w => Tryz.strings_HasPrefix ⟨ob.toArray⟩ ⟨a.toArray⟩ w
        simp only [Lib.hasPrefix] at hpf
        generalize a.isPrefixOf ob = pb at *
        generalize fullJ ours s.f.length a j = fj at *
        clear hcc hob
        cases fj
        · go_wp2
          go_round
          case rel => exact ⟨j + 1, by omega, by go_num, by rw [HN.out]; rfl⟩
          case measure => simp [intOf]; omega
        · go_wp2_with fail
          refine (hpf _).mono ?_
          rintro e w3 ⟨rfl, rfl⟩
          go_wp2
          go_round
          case rel => exact ⟨j + 1, by omega, by go_num, by rw [HN.out]; rfl⟩
          case measure => simp [intOf]; omega
      · obtain rfl : j = n := by omega
        have HE := Lib.hid (show fullL ours s.f.length a = fullJ ours s.f.length a j by rw [fullJ, List.take_of_length_le (by omega)]; rfl)
        generalize fullJ ours s.f.length a j = fj at *
        cases fj
        · go_wp2_with fail
          refine (rd_fails 12 _).mono ?_
          rintro e w3 ⟨rfl, rfl⟩
          exact ⟨rfl, rpost_short (by rw [hV.out, HE.out]; rfl) (fr_below hg F2), F2⟩
        · go_wp2_with fail
          refine (rd_fails 8 _).mono ?_
          rintro e w3 ⟨rfl, rfl⟩
          exact ⟨rfl, rpost_bad (by rw [hV.out, HE.out]; rfl) (fr_below hg F2), F2⟩
  · have hV2 := Lib.hid (hV2.out (by simp))
    have hV3 := Lib.hid (hV3.out (by simp))
    have hV4 := Lib.hid (hV4.out (by simp))
    have hne1 : ¬ k1 = P.length := by simp at hk1; omega
    have hkP : k ≤ P.length := by have := q.at_; omega
    have hqa := q.at_
    have hqr := q.rest
    have hnd := q.nd
    have hnq := q.nq
    have hback : RK (w1.setCell ⟨g, 1, none⟩ (.int .i64 (k : Int))) g ((rCells P hd x1 k1 { s with r := s.r.drop a.length }).setIfInBounds 1 (.int .i64 (k : Int))) P x1 s.f s.d s.q := q1.rk.set_ 1 (.int .i64 (k : Int))
    have q2 := fun m => q1.drewN m
    have hbk : ∀ m, RdT ((w1.drewN m).setCell ⟨g, 1, none⟩ (.int .i64 (k : Int))) g P hd s := fun m =>
      ⟨x1, k, RM.of ((q1.drewN m).rk.set_ 1 (.int .i64 (k : Int))) (by simp [rCells]) q1.cap hqa hqr q1.nf hnd hnq q1.st0⟩
    clear hk1 hV1 hback q hqa hqr hnd hnq
    go_wp2_with fail
    go_quiet (fail)
    have F2 := F1.drewN nq
    have hA2 := hA1.drewN nq
    have q3 := q2 nq
    have hb3 := hbk nq
    obtain ⟨W, hW⟩ : ∃ W, W = w1.drewN nq := ⟨_, rfl⟩
    rw [← hW] at F2 hA2 q3 hb3 ⊢
    clear hW F1 hA1 i0 i1 i4 q1 q2 hbk
    obtain ⟨-, i1, -, -, -, -, -, -, -, p1, -⟩ := q3.c8
    go_wp2_with fail
    go_loop [59] (fun i => ∃ j : Nat, j ≤ n ∧ i = .int .i64 j ∧ Hid (∀ o ∈ ours.take j, o ≠ a)) (fun i => n - (intOf i).toNat)
    case atStart => exact ⟨0, Nat.zero_le _, rfl, fun o ho => by simp at ho⟩
    case round =>
      obtain ⟨j, hj, rfl, hno⟩ := hrel
      by_cases hlt : j < n
      · obtain ⟨bb, o, rfl, hbb, hcc⟩ := hA2.2 (by omega)
        obtain ⟨ob, hob⟩ : ∃ ob, ours[j]? = some ob := ⟨_, List.getElem?_eq_getElem (by omega)⟩
        have hcell := hcc j (tv ob) (by rw [List.getElem?_map, hob]; rfl)
        have HOB := Lib.hid hob
        clear hcc hob
        by_cases hoa : ob = a
        · subst hoa
          have hV := Lib.hid (hV2.out (by rw [List.contains_iff_mem]; exact List.mem_of_getElem? HOB.out))
          clear hV2 hV3 hV4
          go_wp2
          go_ret
          exact ⟨rpost_ok hV.out rfl ((fr_below hg F2).setCell (Nat.le_refl _) _) hb3, F2.on1 _⟩
        · have h3 : (a == ob) = false := by simpa using fun e => hoa e.symm
          have h4 : ¬ (a.toArray = ob.toArray) := by simpa using fun e => hoa e.symm
          have HN := Lib.hid (show ∀ o ∈ ours.take (j + 1), o ≠ a by
            intro o' ho'
            rw [List.take_add_one, HOB.out] at ho'
            simp only [List.mem_append, Option.toList_some, List.mem_singleton] at ho'
            rcases ho' with h | rfl
            · exact hno.out o' h
            · exact hoa)
          clear hoa
          go_wp2
          go_round
          case rel => exact ⟨j + 1, by omega, by go_num, HN⟩
          case measure => simp [intOf]; omega
      · obtain rfl : j = n := by omega
        have hnc : ours.contains a = false := by
          rw [Bool.eq_false_iff]
          intro h
          rw [List.contains_iff_mem] at h
          exact hno.out a (by rw [List.take_of_length_le (by omega)]; exact h) rfl
        have hV3 := Lib.hid (hV3.out hnc)
        have hV4 := Lib.hid (hV4.out hnc)
        have hown := fun w => rep_isOurs a w hal
        clear hnc hno hV2 hlt
        have q4 : RdT W g P hd { s with r := d :: b } := by rw [← HD.out]; exact ⟨x1, k1, q3⟩
        clear hb3 q3 i1 p1
        rcases a with _ | ⟨a0, a⟩
        · have hV := Lib.hid (hV3.out (by simp))
          go_wp2_with fail
          refine (rd_fails 8 _).mono ?_
          rintro e w3 ⟨rfl, rfl⟩
          exact ⟨rfl, rpost_bad hV.out (fr_below hg F2), F2⟩
        · generalize hA0 : a0 :: a = a at *
          have h3 : a.isEmpty = false := by rw [← hA0]; rfl
          have h3' : (a == []) = false := by rw [← hA0]; rfl
          have h4 : ¬ (a.toArray = #[]) := by rw [← hA0]; simp
          have h5 : ¬ a = [] := by rw [← hA0]; simp
          have hV3o := Lib.hid (fun h => hV3.out (by rw [h]; simp) : ownN a = true → _)
          have hV3b := Lib.hid (fun h => hV3.out (by rw [h]; simp) : decide (24 ≤ s.f.length) = true → _)
          have hV4 := Lib.hid (fun h1 h2 => hV4.out (by rw [h1, h2]; simp [h5]) : ownN a = false → decide (24 ≤ s.f.length) = false → _)
          rw [HF0.out] at hV3b hV4
          clear hA0 hV3
          generalize ownN a = oa at *
          cases oa
          · cases F0
            · have hV := Lib.hid (hV4.out rfl rfl)
              clear hV3o hV3b hV4
              go_wp2_with fail
              refine (hown W).mono ?_
              rintro e w3 ⟨rfl, L3⟩
              have hb4 : FrA g w w3 := F2.belowW L3 hgl
              have q6 := q4.belowW L3
              go_wp2_with fail
              refine (rd_textF csB q6 hP (by decide)).mono ?_
              rintro e w4 ⟨h6, F4⟩
              have hb5 : FrA g w w4 := hb4.trans F4
              rcases rpost_out h6 with ⟨hx, rfl, L⟩ | ⟨hx, rfl, L⟩ | ⟨_, r7, hx, rfl, q7, L⟩
              · exact ⟨rfl, rpost_short (by rw [hV.out, hx.out]; rfl) (fr_below hg hb5), hb5⟩
              · exact ⟨rfl, rpost_bad (by rw [hV.out, hx.out]; rfl) (fr_below hg hb5), hb5⟩
              · go_wp2
                go_ret
                exact ⟨rpost_ok (by rw [hV.out, hx.out]; rfl) rfl (fr_below hg hb5) q7, hb5⟩
            · have hV := Lib.hid (hV3b.out rfl)
              clear hV3o hV3b hV4
              go_wp2_with fail
              refine (hown W).mono ?_
              rintro e w3 ⟨rfl, L3⟩
              have hb4 : FrA g w w3 := F2.belowW L3 hgl
              go_wp2_with fail
              refine (rd_fails 8 _).mono ?_
              rintro e w4 ⟨rfl, rfl⟩
              exact ⟨rfl, rpost_bad hV.out (fr_below hg hb4), hb4⟩
          · have hV := Lib.hid (hV3o.out rfl)
            clear hV3o hV3b hV4
            go_wp2_with fail
            refine (hown W).mono ?_
            rintro e w3 ⟨rfl, L3⟩
            have hb4 : FrA g w w3 := F2.belowW L3 hgl
            go_wp2_with fail
            refine (rd_fails 8 _).mono ?_
            rintro e w4 ⟨rfl, rfl⟩
            exact ⟨rfl, rpost_bad hV.out (fr_below hg hb4), hb4⟩
end Go.Proofs.YtlambdccmfnloaaGreatDoor
