/- ReplyHeads. -/
import Derived.Test.YtlambdccmfnloaaDoorRiF
namespace Go.Proofs.YtlambdccmfnloaaDoor
open Go.RowKit
set_option maxRecDepth 100000
set_option maxHeartbeats 4000000

theorem law_Heads (x : RsP) (minor : Int) (close : Bool) (w : World) (hR : RsR w x) (hz : ∀ f ∈ x.r.f, f.1.length ≤ 140737488355328 ∧ f.2.length ≤ 140737488355328) (hm : x.cf ≤ maxLen ∧ x.cb ≤ maxLen ∧ x.cp ≤ maxLen) (htz : TZ w) (ht : Tab10 w) :
    Calls Tryd.prog 3 #[rsW x, .int .i64 minor, .bool close] w fun e w' => e = .returned (.bool true) ∧ Below w.heap.size w w' := by
  have kc := fun (w : World) (C : Array Value) (n c g : Nat) (hg : g = w.heap.size) => Go.Joins.run_convert_bytes_const_at (P := Tryd.prog) w 23 5 C n c g hg Tryd.underlying23 Tryd.underlying5
  have hH := fun w' (h : RsR w' x) => law_heavy18 x w' h hz hm
  have hE := fun head w' (h : RsR w' x) (hL : Light x.r) (t1 : TZ w') (t2 : Tab10 w') => rep_Encode x head minor close w' h (light_z hL) t1 t2 (fun _ => hL)
  obtain ⟨r, Af, cf, Ab, cb, Ap, cp⟩ := x
  show Calls Tryd.prog 3 #[.agg #[.int .i64 r.st, .slice Af r.f.length cf, .slice Ab r.b.length cb, .slice Ap r.p.length cp], .int .i64 minor, .bool close] w fun e w' => e = .returned (.bool true) ∧ Below w.heap.size w w'
  go_enter Tryd.func3, Tryd.ntmps3
  go_upto_region 1 with (fail)
  obtain ⟨V, hV⟩ : ∃ V, V = w.alloc (.cells #[.int .i64 r.st, .slice Af r.f.length cf, .slice Ab r.b.length cb, .slice Ap r.p.length cp] 26) := ⟨_, rfl⟩
  rw [← hV]
  have LV : Below w.heap.size w V := by rw [hV]; exact allocW (Below.refl _ _) _
  have BV : Blk V w.heap.size 26 #[.int .i64 r.st, .slice Af r.f.length cf, .slice Ab r.b.length cb, .slice Ap r.p.length cp] := by rw [hV]; exact Blk.new' _ _ rfl _ _
  clear hV
  have RV : RB V w.heap.size ⟨r, Af, cf, Ab, cb, Ap, cp⟩ := ⟨BV, hR.belowW LV⟩
  clear hR
  obtain ⟨x0, x1, x2, x3, -⟩ := BV.c4
  go_wp2_with fail
  refine (hH _ RV.row).mono ?_
  rintro e w1 ⟨rfl, L1⟩
  have N1 := stepW LV L1
  have R1 := RV.belowW L1
  clear x0 x1 x2 x3 BV RV hH L1 LV
  obtain ⟨x0, x1, x2, x3, -⟩ := R1.blk.c4
  cases hv : heavyR r
  · have hLt := light_of r hv
    have hE1 := hE true _ R1.row hLt (htz.below N1 (Nat.le_refl _)) (tab_below ht N1 (Nat.le_refl _))
    rw [enc_light _ _ _ _ hLt] at hE1
    cases hone : isOneL r
    · rw [hone, if_neg (by decide)] at hE1
      clear hv
      go_wp2_with fail
      refine hE1.mono ?_
      intro e w2 hp
      obtain ⟨A2, c2, rfl, L2⟩ := hp.no
      have N2 := stepW N1 L2
      have R2 := R1.belowW L2
      clear x0 x1 x2 x3 hE1
      obtain ⟨x0, x1, x2, x3, -⟩ := R2.blk.c4
      have hE2 := hE false _ R2.row hLt (htz.below N2 (Nat.le_refl _)) (tab_below ht N2 (Nat.le_refl _))
      rw [enc_light _ _ _ _ hLt, hone, if_neg (by decide)] at hE2
      clear hone hE
      go_wp2_with fail
      refine hE2.mono ?_
      intro e w3 hp
      obtain ⟨A3, c3, rfl, L3⟩ := hp.no
      have N3 := stepW N2 L3
      go_wp2_with fail
      refine (law_known18 _ (htz.below N3 (Nat.le_refl _)) (tab_below ht N3 (Nat.le_refl _))).mono ?_
      rintro e w4 ⟨rfl, L4⟩
      go_wp2
      go_ret
      exact ⟨rfl, stepW N3 L4⟩
    · rw [hone, if_pos rfl, all_head] at hE1
      have hse := all_short r false minor close hLt hone
      obtain ⟨u, hu⟩ := head_ends r minor close
      go_wp2_with fail
      refine hE1.mono ?_
      intro e w2 hp
      obtain ⟨A2, c2, rfl, hc2, hc2', -, hr2, L2⟩ := hp.yes
      have N2 := stepW N1 L2
      have R2 := R1.belowW L2
      clear x0 x1 x2 x3 hE1
      obtain ⟨x0, x1, x2, x3, -⟩ := R2.blk.c4
      have hE2 := hE false _ R2.row hLt (htz.below N2 (Nat.le_refl _)) (tab_below ht N2 (Nat.le_refl _))
      rw [enc_light _ _ _ _ hLt, hone, if_pos rfl] at hE2
      have hcase : (0 < r.b.length ∨ (¬ 0 < r.b.length ∧ 0 < r.p.length)) ∨ (¬ 0 < r.b.length ∧ ¬ 0 < r.p.length ∧ (allR r false minor close).length = (headR r minor close).length) := by
        by_cases h1 : 0 < r.b.length
        · exact .inl (.inl h1)
        · by_cases h2 : 0 < r.p.length
          · exact .inl (.inr ⟨h1, h2⟩)
          · exact .inr ⟨h1, h2, by rw [all_get, body_none r minor (List.eq_nil_of_length_eq_zero (by omega)) (List.eq_nil_of_length_eq_zero (by omega)), List.append_nil]⟩
      rw [all_get] at hE2 hse hcase
      clear hone hE hv hLt
      generalize bodyR r false minor = B at *
      generalize headR r minor close = a at *
      subst hu
      have hal : (u ++ [13, 10, 13, 10]).length = u.length + 4 := by simp
      have hbl : (u ++ [13, 10, 13, 10] ++ B).length = u.length + 4 + B.length := by simp; omega
      rw [hal] at hr2
      rw [hal, hbl] at hcase
      rw [hal] at hc2
      go_wp2_with fail
      refine hE2.mono ?_
      intro e w3 hp
      obtain ⟨A3, c3, rfl, hc3, hc3', -, hr3, L3⟩ := hp.yes
      have N3 := stepW N2 L3
      rw [hbl] at hr3 hc3 hse
      have R3 := R2.belowW L3
      clear x0 x1 x2 x3 hE2
      obtain ⟨x0, x1, x2, x3, -⟩ := R3.blk.c4
      have hr2' : Rd w3 w3.heap.size 1 A2 (u.length + 4) ((u ++ [13, 10, 13, 10]).map bv) := (hr2.belowW (Nat.le_refl _) L3).more L3.size
      obtain ⟨b2, o2, rfl, hb2, -⟩ := hr2'.2 (by omega)
      obtain ⟨b3, o3, rfl, hb3, -⟩ := hr3.2 (by omega)
      rw [hbl]
      have hle : ((u.length : Int) + 4 ≤ (u.length : Int) + 4 + (B.length : Int)) := by omega
      have hcut := hr3.cutTo (k := u.length + 4) (by omega)
      have e1 : ((u ++ [13, 10, 13, 10] ++ B).map bv).take ((u.length + 4) * 1) = (u ++ [13, 10, 13, 10]).map bv := by
        rw [Nat.mul_one, List.map_append, List.take_append_of_le_length (by simp), List.take_of_length_le (by simp)]
      rw [e1] at hcut
      have hS1 := law_same18 (some ⟨b3, o3, none⟩) (u.length + 4) c3 _ (some ⟨b2, o2, none⟩) (u.length + 4) c2 _ w3 hcut hr2' (by omega)
      rw [decide_eq_true rfl] at hS1
      go_wp2_with fail
      refine hS1.mono ?_
      rintro e w4 ⟨rfl, L4⟩
      have N4 := stepW N3 L4
      have R4 := R3.belowW L4
      clear x0 x1 x2 x3 hS1 hcut e1
      have hr4 : Rd w4 w4.heap.size 1 (some ⟨b2, o2, none⟩) (u.length + 4) ((u ++ [13, 10, 13, 10]).map bv) := (hr2'.belowW (Nat.le_refl _) L4).more L4.size
      have hfr := hr4.cutFrom (k := u.length) (by omega)
      have e2 : ((u ++ [13, 10, 13, 10]).map bv).drop (u.length * 1) = ([13, 10, 13, 10] : Bs).map bv := by
        rw [Nat.mul_one, List.map_append, List.drop_left' (by simp)]
      rw [e2, Option.map_some, add_lit', Nat.mul_one] at hfr
      have hlen4 : u.length + 4 - u.length = 4 := by omega
      rw [hlen4] at hfr
      have hr5 : Rd (w4.alloc (.cells #[.int .u8 13, .int .u8 10, .int .u8 13, .int .u8 10] 5 (4, 5))) (w4.heap.size + 1) 1 (some ⟨w4.heap.size, 0, none⟩) 4 (([13, 10, 13, 10] : Bs).map bv) := Rd.newM w4 _ rfl [.int .u8 13, .int .u8 10, .int .u8 13, .int .u8 10] 5 (4, 5) 4 1 rfl
      have La := allocW (Below.refl w4.heap.size w4) (.cells #[.int .u8 13, .int .u8 10, .int .u8 13, .int .u8 10] 5 (4, 5))
      have hS2 : Calls Tryd.prog 8 #[.slice (some ⟨b2, o2 + u.length, none⟩) 4 (c2 - u.length), .slice (some ⟨w4.heap.size, 0, none⟩) 4 4] (w4.alloc (.cells #[.int .u8 13, .int .u8 10, .int .u8 13, .int .u8 10] 5 (4, 5))) fun e w' => e = .returned (.bool true) ∧ Below (w4.alloc (.cells #[.int .u8 13, .int .u8 10, .int .u8 13, .int .u8 10] 5 (4, 5))).heap.size (w4.alloc (.cells #[.int .u8 13, .int .u8 10, .int .u8 13, .int .u8 10] 5 (4, 5))) w' := by
        have h9 := law_same18 (some ⟨b2, o2 + u.length, none⟩) 4 (c2 - u.length) [13, 10, 13, 10] (some ⟨w4.heap.size, 0, none⟩) 4 4 [13, 10, 13, 10] _ ((hfr.alloc (Nat.le_refl _) (.cells #[.int .u8 13, .int .u8 10, .int .u8 13, .int .u8 10] 5 (4, 5))).more La.size) (hr5.more (allocW_size w4 _)) (by decide)
        rw [decide_eq_true rfl] at h9
        exact h9
      clear e2 hr5
      go_wp2_with fail
      refine hS2.mono ?_
      rintro e w5 ⟨rfl, L5⟩
      have N5 := stepW (stepW N4 La) L5
      obtain ⟨x0, x1, x2, x3, -⟩ := (R4.belowW (stepW La L5)).blk.c4
      have hK := law_known18 w5 (htz.below N5 (Nat.le_refl _)) (tab_below ht N5 (Nat.le_refl _))
      clear hS2 hr4 hfr
      clear R1 R2 R3 R4 hz hm hr2 hr2' hr3 hlen4 x0 x1 hp
      generalize r.b.length = nb at *
      generalize r.p.length = np at *
      rcases hcase with (h1 | ⟨h1, h2⟩) | ⟨h1, h2, h3⟩
      · have h1' : (0 : Int) < (nb : Int) := by omega
        clear h1
        go_wp2_with fail
        refine hK.mono ?_
        rintro e w6 ⟨rfl, L6⟩
        go_wp2
        go_ret
        exact ⟨rfl, stepW N5 L6⟩
      · have h1' : ¬ (0 : Int) < (nb : Int) := by omega
        have h2' : (0 : Int) < (np : Int) := by omega
        clear h1 h2
        go_wp2_with fail
        refine hK.mono ?_
        rintro e w6 ⟨rfl, L6⟩
        go_wp2
        go_ret
        exact ⟨rfl, stepW N5 L6⟩
      · have h1' : ¬ (0 : Int) < (nb : Int) := by omega
        have h2' : ¬ (0 : Int) < (np : Int) := by omega
        have h3' : B.length = 0 := by omega
        have h4' : ((u.length : Int) + 4 == (u.length : Int) + 4) = true := by simp
        clear h1 h2 h3
        generalize B.length = nB at *
        subst h3'
        go_wp2_with fail
        refine hK.mono ?_
        rintro e w6 ⟨rfl, L6⟩
        go_wp2
        go_ret
        exact ⟨rfl, stepW N5 L6⟩
  · go_wp2_with fail
    go_ret
    exact ⟨rfl, N1⟩
end Go.Proofs.YtlambdccmfnloaaDoor
