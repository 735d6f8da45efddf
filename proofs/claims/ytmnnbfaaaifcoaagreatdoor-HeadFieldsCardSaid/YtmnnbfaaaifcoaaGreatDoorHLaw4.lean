/- The law HeadFields. -/
import Derived.Test.YtmnnbfaaaifcoaaGreatDoorHPl4
import Derived.Test.YtmnnbfaaaifcoaaGreatDoorHLaw3
namespace Go.Proofs.YtmnnbfaaaifcoaaGreatDoor
open Go.RowKit
set_option maxRecDepth 100000
set_option maxHeartbeats 4000000

theorem Fr.drewMoved {S S' : Nat → Prop} {w w' : World} {q : Nat} (h : Moved S S' (w.drewN q) w') : Moved S S' w w' := ⟨⟨h.fr.os, h.fr.tape, h.fr.output, h.fr.size, h.fr.block⟩, h.foot⟩
theorem take_fd (l : List Fd) (k : Nat) (f : Fd) (hf : l[k]? = some f) : l.take (k + 1) = l.take k ++ [f] := by
  have hk := (List.getElem?_eq_some_iff.1 hf).1
  have e : l[k] = f := by have := List.getElem?_eq_getElem hk; rw [hf] at this; exact (Option.some.inj this).symm
  rw [List.take_succ_eq_append_getElem hk, e]
theorem fH_inv (b : Bool) (l : List Fd) (k : Nat) (h : ∀ f ∈ l, f.1.length ≤ 1000000 ∧ f.2.length ≤ 1000000) (hl : l.length ≤ 24) (hs : 18 + sumF l ≤ 1024) : HInv (fH b (l.take k)) := by
  have h1 := sumF_le l k
  refine ⟨by show (l.take k).length ≤ 24; rw [List.length_take]; omega, fun f hf => h f (List.mem_of_mem_take hf), ?_, ?_, ?_, Nat.zero_le _, fun _ _ => ⟨?_, Nat.zero_le _⟩, fun h0 => by cases h0⟩
  · show 0 ≤ mI' b; cases b <;> decide
  · show mI' b ≤ 1; cases b <;> decide
  · show 16 + sumF (l.take k) ≤ 1300; omega
  · show 16 + sumF (l.take k) ≤ 1024; omega
theorem law_HeadFields (b : Bool) (A : Option Addr) (n c : Nat) (l : List Fd) (w : World) (hA : Rd w w.heap.size 2 A n (fcells l)) (hz : ∀ f ∈ l, f.1.length ≤ 140737488355328 ∧ f.2.length ≤ 140737488355328) (hn : n ≤ maxLen) (hm : ML w) :
    Calls Tryz.prog 7 #[.bool b, .slice A n c] w fun e w' => e = .returned (.bool true) ∧ Below w.heap.size w w' := by
  have hln := fcells_n hA
  unfold maxLen at hn
  have hK := fun W (L : Below w.heap.size w W) => law13_known W (hm.below L (Nat.le_refl _))
  by_cases h24 : 24 < n
  · go_enter Tryz.func7, Tryz.ntmps7
    go_wp2_with fail
    refine (hK w (Below.refl _ _)).mono ?_
    rintro e w1 ⟨rfl, L1⟩
    go_wp2
    go_ret
    exact ⟨rfl, L1⟩
  have hn24 : n ≤ 24 := by omega
  clear h24
  have hF0 : FA (w.alloc (.cells #[.slice none 0 0] 41)) 41 w.heap.size 0 (.slice none 0 0) [] := ⟨Blk.new' _ _ rfl _ _, OF.nil _ _, Nat.zero_le _, by simp [Value.ownBlock]⟩
  have L0 := allocW (Below.refl w.heap.size w) (.cells #[.slice none 0 0] 41)
  obtain ⟨gx, hgx⟩ : ∃ gx, gx = w.heap.size := ⟨_, rfl⟩
  rw [← hgx] at hF0
  have hgw : w.heap.size ≤ gx := by omega
  go_enter Tryz.func7, Tryz.ntmps7
  go_wp2
  rw [← hgx]
  clear hgx
  go_loopw [6, 7] (fun by_ i wr => ∃ (k B : Nat) (v : Value), k ≤ n ∧ i = .int .i64 k ∧ by_ = .int .i64 B ∧ FA wr 41 gx 0 v (l.take k) ∧ Hid (B = 18 + sumF (l.take k)) ∧ B ≤ 18 + 258 * k ∧ Hid (∀ f ∈ l.take k, isF f = true ∧ f.1.length + f.2.length ≤ 254) ∧ (∀ j, v.ownBlock = some j → w.heap.size ≤ j) ∧ Below w.heap.size w wr) (fun _ i _ => n - (intOf i).toNat)
  case atStart => exact ⟨0, 18, _, Nat.zero_le _, rfl, rfl, hF0, Lib.hid rfl, Nat.le_refl _, Lib.hid (by simp), by simp [Value.ownBlock], L0⟩
  case round =>
    obtain ⟨k, B, v, hk, rfl, rfl, hF, HB, hB2, HI, hv, L⟩ := hrel
    by_cases hlt : k < n
    · obtain ⟨f, hf, -⟩ := drop_fd (by omega : k < l.length)
      obtain ⟨z1, z2⟩ := hz f (List.mem_of_getElem? hf)
      have hAr := hA.below L
      obtain ⟨p, o, rfl, hp, x0, x1⟩ := hAr.fd hln k f hf
      have Hf := Lib.hid hf
      have hlk : (l.take k).length = k := by rw [List.length_take]; omega
      clear hf
      by_cases hbig : 254 < f.1.length + f.2.length
      · go_wp2
        go_quiet (fail)
        go_wp2_with fail
        refine (hK _ (below_drewN' L _)).mono ?_
        rintro e w1 ⟨rfl, L1⟩
        go_wp2
        go_ret
        exact ⟨rfl, stepW (below_drewN' L _) L1⟩
      · go_wp2
        go_quiet (fail)
        have Ld := below_drewN' L nq
        have hFd : FA (wr.drewN nq) 41 gx 0 v (l.take k) := hF.belowW (below_drewN' (Below.refl _ _) nq)
        have hr3 : Rd ((wr.drewN nq).alloc (.cells #[sv f.1, sv f.2] 49)) ((wr.drewN nq).heap.size + 1) 2 (some ⟨(wr.drewN nq).heap.size, 0, none⟩) 1 (fcells [f]) := Rd.new (wr.drewN nq) _ rfl [sv f.1, sv f.2] _ 1 2 rfl
        have hC := ref10_Add gx 0 1 1 _ _ v (l.take k) [f] _ (hFd.alloc (.cells #[sv f.1, sv f.2] 49)) hr3 (by simp) (fun _ a ha hs => by
          injection ha with ha
          subst ha
          rcases hs with h1 | h1
          · have h1 : (wr.drewN nq).heap.size = gx := h1
            have := hFd.blk.lt; omega
          · exact Nat.lt_irrefl _ (Own.lt2 hFd.own (show v.ownBlock = some (wr.drewN nq).heap.size from h1))) (fun g hg => by rw [List.mem_singleton] at hg; subst hg; exact ⟨by omega, by omega⟩) (by omega) (Nat.zero_le _) (by decide)
        have La := stepW Ld (allocW (Below.refl (wr.drewN nq).heap.size (wr.drewN nq)) (.cells #[sv f.1, sv f.2] 49))
        cases hI : isF f
        · rw [addL_bad _ _ _ _ hI] at hC
          go_wp2_with fail
          refine hC.mono ?_
          rintro e w4 ⟨rfl, -, hfr⟩
          have L4 := La.trans (hfr.toBelow La.size (fun i hi => by rcases hi with rfl | h1; exact hgw; exact hv i h1))
          unfold addV
          go_wp2_with fail
          refine (hK _ L4).mono ?_
          rintro e w1 ⟨rfl, L1⟩
          go_wp2
          go_ret
          exact ⟨rfl, stepW L4 L1⟩
        · rw [addL_one _ _ _ _ hI (by omega), addL_nil, ← take_fd l k f Hf.out] at hC
          have HI2 : Hid (∀ g ∈ l.take (k + 1), isF g = true ∧ g.1.length + g.2.length ≤ 254) := Lib.hid (by
            intro g hg
            rw [take_fd l k f Hf.out] at hg
            rcases List.mem_append.1 hg with hg | hg
            · exact HI.out g hg
            · rw [List.mem_singleton] at hg; subst hg; exact ⟨hI, by omega⟩)
          have HB2 := Lib.hid (show B + (f.1.length + f.2.length) + 4 = 18 + sumF (l.take (k + 1)) by rw [HB.out, sumF_take l k f Hf.out]; omega)
          clear hI
          go_wp2_with fail
          refine hC.mono ?_
          rintro e w4 ⟨rfl, ⟨v', hF4, hv4⟩, hfr⟩
          have L4 := La.trans (hfr.toBelow La.size (fun i hi => by rcases hi with rfl | h1; exact hgw; exact hv i h1))
          unfold addV
          go_wp2
          go_roundw
          case rel => exact ⟨k + 1, B + (f.1.length + f.2.length) + 4, v', by omega, by go_num, by go_num, hF4, HB2, by omega, HI2, fun j h1 => (hv4 j h1).elim (hv j) (fun h2 => Nat.le_trans La.size h2), L4⟩
          case measure => simp [intOf]; omega
    · obtain rfl : k = n := by omega
      have htk : l.take k = l := List.take_of_length_le (by omega)
      rw [htk] at hF HB HI
      have HIa := Lib.hid HI.out
      have hBe := HB.out
      have hIn : ∀ f ∈ l, f.1.length ≤ 1000000 ∧ f.2.length ≤ 1000000 := fun f hf => by have := (HI.out f hf).2; exact ⟨by omega, by omega⟩
      clear HI HB htk hlt hk
      by_cases h1024 : 1024 < B
      · go_wp2_with fail
        refine (hK _ L).mono ?_
        rintro e w1 ⟨rfl, L1⟩
        go_wp2
        go_ret
        exact ⟨rfl, stepW L L1⟩
      have hsum : 18 + sumF l ≤ 1024 := by omega
      have hB1024 : B ≤ 1024 := by omega
      clear hBe h1024 hB2
      obtain ⟨n, hnk⟩ : ∃ n, n = k := ⟨_, rfl⟩
      cases b
      · subst hnk
        go_wp2_with fail
        refine (hd_New wr).mono ?_
        rintro e w1 ⟨⟨g, S1, rfl, k1, hS1⟩, L1⟩
        have hF1 := hF.belowW L1
        have L1' := stepW L L1
        have hm1 := hm.below L1' (Nat.le_refl _)
        have hSw : ∀ i, S1 i → w.heap.size ≤ i := fun i hi => Nat.le_trans L.size (hS1 i hi)
        have hd1 : ∀ i, S1 i → ¬ FS gx v i := fun i h1 h2 => by
          have h3 := hS1 i h1
          rcases h2 with rfl | h2
          · have := hF.blk.lt; omega
          · have := Own.lt2 hF.own h2; omega
        obtain ⟨pf, c0, -⟩ := k1.f0
        go_wp2_with fail
        refine (hd_Line g S1 hs0 ⟨(khM false).toArray⟩ w1 k1 hs0_inv (by decide) hm1 (hi_of hm hSw)).mono ?_
        rw [show hLine hs0 (⟨(khM false).toArray⟩ : ByteArray).data.toList = fH false [] from fH_start false]
        rintro e w2 ⟨rfl, S2, k2, m2⟩
        have L2 := moved_below m2 L1' hSw
        have hSw2 := moved_hs m2 L1'.size hSw
        have hF2 := hF1.fr m2.fr (fun h => hd1 _ h (.inl rfl)) (fun j h1 h2 => hd1 _ h2 (.inr h1))
        have hd2 : ∀ i, S2 i → ¬ FS gx v i := fun i h1 h2 => by
          rcases m2.foot i h1 with h3 | h3
          · exact hd1 i h3 h2
          · rcases h2 with rfl | h2
            · have := hF1.blk.lt; omega
            · have := Own.lt2 hF1.own h2; omega
        clear k1 m2 c0 hF1 hd1 hSw L1 L1' hS1 hF L hm1
        go_wp2
        go_loopw [14] (fun i wr => ∃ (k : Nat) (S : Nat → Prop), k ≤ n ∧ i = .int .i64 k ∧ HR wr g S (fH false (l.take k)) ∧ FA wr 41 gx 0 v l ∧ (∀ j, S j → w.heap.size ≤ j) ∧ (∀ j, S j → ¬ FS gx v j) ∧ Below w.heap.size w wr) (fun i _ => n - (intOf i).toNat)
        case atStart => exact ⟨0, S2, Nat.zero_le _, rfl, k2, hF2, hSw2, hd2, L2⟩
        case round =>
          clear k2 hF2 hSw2 hd2 L2
          obtain ⟨k, S, hk, rfl, kh, hF, hSb, hdj, L⟩ := hrel
          by_cases hlt : k < n
          · obtain ⟨f, hf, -⟩ := drop_fd (by omega : k < l.length)
            obtain ⟨hi, hfz⟩ := HIa.out f (List.mem_of_getElem? hf)
            have hAr := hA.below L
            obtain ⟨p, o, rfl, hp, x0, x1⟩ := hAr.fd hln k f hf
            have hsf := sumF_take l k f hf
            have hsl := sumF_le l (k + 1)
            have hE := fH_step false (l.take k) f hi hfz (by omega) (by rw [List.length_take]; omega)
            rw [← take_fd l k f hf] at hE
            have hmr := hm.below L (Nat.le_refl _)
            have hIv : HInv (fH false (l.take k)) := fH_inv false l k hIn (by omega) hsum
            have hC : ∀ q, Calls Tryz.prog 15 #[.pointer (some ⟨g, 0, none⟩), .string ((⟨f.1.toArray⟩ : ByteArray) ++ ⟨#[58, 32]⟩ ++ ⟨f.2.toArray⟩)] (wr.drewN q) (HLPost (wr.drewN q) g S (fH false (l.take (k + 1)))) := fun q => by
              have h9 := hd_Line g S (fH false (l.take k)) ((⟨f.1.toArray⟩ : ByteArray) ++ ⟨#[58, 32]⟩ ++ ⟨f.2.toArray⟩) (wr.drewN q) (kh.belowW (below_drewN' (Below.refl _ _) q)) hIv (by rw [← len_data, app_data, app_data]; simp; omega) (hmr.drewN q) (hi_of hm hSb)
              rw [show ((⟨f.1.toArray⟩ : ByteArray) ++ ⟨#[58, 32]⟩ ++ ⟨f.2.toArray⟩ : ByteArray).data.toList = fLine f by rw [app_data, app_data]; rfl, hE] at h9
              exact h9
            have Hsl := Lib.hid hsl
            have Hf := Lib.hid hf
            have Hsf := Lib.hid hsf
            have HE9 := Lib.hid hE
            clear hsl hsf hE hf hi hAr hmr hIv
            unfold HLPost at hC
            have hX : ∀ W, Below w.heap.size w W → W.cell? ⟨p, o + k * 2, none⟩ = some (sv f.1) ∧ W.cell? ⟨p, o + k * 2 + 1, none⟩ = some (sv f.2) := fun W hb => by
              obtain ⟨p', o', e', hp', y0, y1⟩ := (hA.below hb).fd hln k f Hf.out
              injection e' with e'
              injection e' with e1 e2
              subst e1 e2
              exact ⟨y0, y1⟩
            have hq1 : ¬ 9223372036854775807 < f.1.length + 2 := by omega
            have hq2 : ¬ 9223372036854775807 < f.1.length + 2 + f.2.length := by omega
            go_wp2_with fail
            go_region_held3 (fun w' => w'.cell? ⟨p, o + k * 2, none⟩ = some (sv f.1) ∧ w'.cell? ⟨p, o + k * 2 + 1, none⟩ = some (sv f.2))
              (first | go_keep | exact X4)
              (first
                | (go_at_call 15
                   refine (hC 0).mono ?_
                   rintro e w4 ⟨rfl, S4, k4, m4⟩
                   have m4' : Moved S S4 wr w4 := Fr.drewMoved m4
                   have X4 : w4.cell? ⟨p, o + k * 2, none⟩ = some (sv f.1) ∧ w4.cell? ⟨p, o + k * 2 + 1, none⟩ = some (sv f.2) := hX w4 (moved_below m4' L hSb))
                | (go_at_call 15
                   refine (hC 1).mono ?_
                   rintro e w4 ⟨rfl, S4, k4, m4⟩
                   have m4' : Moved S S4 wr w4 := Fr.drewMoved m4
                   have X4 : w4.cell? ⟨p, o + k * 2, none⟩ = some (sv f.1) ∧ w4.cell? ⟨p, o + k * 2 + 1, none⟩ = some (sv f.2) := hX w4 (moved_below m4' L hSb)))
            have L4 := moved_below m4' L hSb
            have hSb4 := moved_hs m4' L.size hSb
            have hF4 := hF.fr m4'.fr (fun h => hdj _ h (.inl rfl)) (fun j h1 h2 => hdj _ h2 (.inr h1))
            have hdj4 : ∀ i, S4 i → ¬ FS gx v i := fun i h1 h2 => by
              rcases m4'.foot i h1 with h3 | h3
              · exact hdj i h3 h2
              · rcases h2 with rfl | h2
                · have := hF.blk.lt; omega
                · have := Own.lt2 hF.own h2; omega
            go_wp2_with fail
            go_roundw
            case rel => exact ⟨k + 1, S4, by omega, by go_num, k4, hF4, hSb4, hdj4, L4⟩
            case measure => simp [intOf]; omega
          · obtain rfl : k = n := by omega
            have htk : l.take k = l := List.take_of_length_le (by omega)
            rw [htk] at kh
            obtain ⟨y, hy⟩ : ∃ y, y = frmL false l := ⟨_, rfl⟩
            obtain ⟨y, st⟩ := y
            obtain ⟨E, hE⟩ : ∃ E, E = { fH false l with bytes := 18 + sumF l, how := y, status := st, whole := decide (st = 0) } := ⟨_, rfl⟩
            have hEe : hLine (fH false l) [] = E := by rw [fH_end false l hsum, ← hy, hE]
            have hIv : HInv (fH false l) := by have h9 := fH_inv false l k hIn (by omega) hsum; rw [htk] at h9; exact h9
            have hIE : HInv E := by rw [← hEe]; exact hLine_inv _ _ hIv
            have hEw : E.whole = (st == 0) := by rw [hE]; exact (Bool.eq_iff_iff.2 (by simp))
            have hEs : E.status = st := by rw [hE]
            have hEh : E.how = y := by rw [hE]
            have hEf : E.flds = l := by rw [hE]; rfl
            have hmr := hm.below L (Nat.le_refl _)
            have hsz : FdSz l := hIn
            have hOf : ∀ W, Below wr.heap.size wr W ∨ (FA W 41 gx 0 v l) → FA W 41 gx 0 v l → Calls Tryz.prog 22 #[.int .i64 0, .pointer (some ⟨gx, 0, none⟩)] W fun e w' => e = .returned (howR (y, st)) ∧ Below W.heap.size W w' := fun W _ hFW => by
              rw [hy]; exact r12_Of 0 (some ⟨gx, 0, none⟩) l W (.inr ⟨gx, rfl, hFW.rd⟩) (by omega) hsz (by decide) (by decide)
            have hC := hd_Line g S (fH false l) ⟨#[]⟩ wr kh hIv (by decide) hmr (hi_of hm hSb)
            rw [show (⟨#[]⟩ : ByteArray).data.toList = [] from rfl, hEe] at hC
            unfold HLPost at hC
            rw [hEw, hEs] at hC
            clear hE hEe hy htk hIv
            go_wp2_with fail
            refine hC.mono ?_
            rintro e w4 ⟨rfl, S4, k4, m4⟩
            have L4 := moved_below m4 L hSb
            have hF4 := hF.fr m4.fr (fun h => hdj _ h (.inl rfl)) (fun j h1 h2 => hdj _ h2 (.inr h1))
            clear hC kh m4 hF hSb hdj L hmr
            rw [show howR (y, st) = .tuple #[howV y, .int .i64 st] from rfl] at hOf
            go_wp2_with fail
            refine (hOf w4 (.inr hF4) hF4).mono ?_
            rintro e w5 ⟨rfl, M5⟩
            have L5 := stepW L4 M5
            have k5 := k4.belowW M5
            have LA := allocW (Below.refl w5.heap.size w5) (.cells #[.int .i64 y.kind, .int .i64 y.len, .bool y.close, .bool y.expect] 42)
            have BA := Blk.new w5 42 #[.int .i64 y.kind, .int .i64 y.len, .bool y.close, .bool y.expect]
            obtain ⟨U, hU⟩ : ∃ U, U = w5.alloc (.cells #[.int .i64 y.kind, .int .i64 y.len, .bool y.close, .bool y.expect] 42) := ⟨_, rfl⟩
            rw [← hU] at LA BA
            have k6 := k5.belowW LA
            have L6 := stepW L5 LA
            have hHow := hd_How g S4 E U k6
            rw [hEh] at hHow
            unfold howV
            go_wp2_with fail
            rw [← hU]
            clear hU LA k5 M5 hF4 k4 hOf
            obtain ⟨h5, hh5⟩ : ∃ h5, h5 = w5.heap.size := ⟨_, rfl⟩
            rw [← hh5] at BA ⊢
            clear hh5
            refine hHow.mono ?_
            rintro e w7 ⟨rfl, M7⟩
            have L7 := stepW L6 M7
            have B7 := BA.belowW M7
            have k7 := k6.belowW M7
            have LB := allocW (Below.refl w7.heap.size w7) (.cells #[.int .i64 y.kind, .int .i64 y.len, .bool y.close, .bool y.expect] 30)
            have BB := Blk.new w7 30 #[.int .i64 y.kind, .int .i64 y.len, .bool y.close, .bool y.expect]
            obtain ⟨V, hV⟩ : ∃ V, V = w7.alloc (.cells #[.int .i64 y.kind, .int .i64 y.len, .bool y.close, .bool y.expect] 30) := ⟨_, rfl⟩
            rw [← hV] at LB BB
            have B8 := B7.belowW LB
            have k8 := k7.belowW LB
            have L8 := stepW L7 LB
            obtain ⟨pf, d0, hFR⟩ := k8.f0
            rw [hEf] at hFR
            have hAll := fld_All pf l V hFR (by omega)
            have d0' : (w7.alloc (.cells #[.int .i64 y.kind, .int .i64 y.len, .bool y.close, .bool y.expect] 30)).cell? ⟨g, 0, none⟩ = some (.pointer (some ⟨pf, 0, none⟩)) := by rw [← hV]; exact d0
            unfold howV
            go_wp2_with fail
            rw [← hV]
            clear hV d0'
            refine hAll.mono ?_
            rintro e w9 ⟨⟨v9, rfl, ho9⟩, M9⟩
            obtain ⟨A9, c9, rfl, -, -, hr9⟩ := OF.form ho9
            have L9 := stepW L8 M9
            have hA9 := (hA.below L9).more L9.size
            have B9 := B8.belowW M9
            have C9 := BB.belowW M9
            obtain ⟨h7, hh7⟩ : ∃ h7, h7 = w7.heap.size := ⟨_, rfl⟩
            rw [← hh7] at C9 ⊢
            rw [hln] at hr9
            have hF13 := law_fields13_eq A9 k c9 l A k c w9 hr9 hA9 (by unfold maxLen; omega)
            have hB9 := B9.lt
            have hC9 := C9.lt
            clear hh7 hAll hFR d0 B8 BB B7 BA M9 ho9 L4 L5 L6 L7 L8
            go_wp2_with fail
            refine hF13.mono ?_
            rintro e w10 ⟨rfl, M10⟩
            have L10 := stepW L9 M10
            obtain ⟨b0, b1, b2, b3, -, -, -, -⟩ := (B9.belowW M10).c4
            obtain ⟨c0, c1, c2, c3, -, -, -, -⟩ := (C9.belowW M10).c4
            clear hF13 B9 C9 hr9 hA9
            go_wp2_with fail
            refine (hK w10 L10).mono ?_
            rintro e w11 ⟨rfl, M11⟩
            go_wp2
            go_ret
            exact ⟨rfl, stepW L10 M11⟩
      · subst hnk
        go_wp2_with fail
        refine (hd_New wr).mono ?_
        rintro e w1 ⟨⟨g, S1, rfl, k1, hS1⟩, L1⟩
        have hF1 := hF.belowW L1
        have L1' := stepW L L1
        have hm1 := hm.below L1' (Nat.le_refl _)
        have hSw : ∀ i, S1 i → w.heap.size ≤ i := fun i hi => Nat.le_trans L.size (hS1 i hi)
        have hd1 : ∀ i, S1 i → ¬ FS gx v i := fun i h1 h2 => by
          have h3 := hS1 i h1
          rcases h2 with rfl | h2
          · have := hF.blk.lt; omega
          · have := Own.lt2 hF.own h2; omega
        obtain ⟨pf, c0, -⟩ := k1.f0
        go_wp2_with fail
        refine (hd_Line g S1 hs0 ⟨(khM true).toArray⟩ w1 k1 hs0_inv (by decide) hm1 (hi_of hm hSw)).mono ?_
        rw [show hLine hs0 (⟨(khM true).toArray⟩ : ByteArray).data.toList = fH true [] from fH_start true]
        rintro e w2 ⟨rfl, S2, k2, m2⟩
        have L2 := moved_below m2 L1' hSw
        have hSw2 := moved_hs m2 L1'.size hSw
        have hF2 := hF1.fr m2.fr (fun h => hd1 _ h (.inl rfl)) (fun j h1 h2 => hd1 _ h2 (.inr h1))
        have hd2 : ∀ i, S2 i → ¬ FS gx v i := fun i h1 h2 => by
          rcases m2.foot i h1 with h3 | h3
          · exact hd1 i h3 h2
          · rcases h2 with rfl | h2
            · have := hF1.blk.lt; omega
            · have := Own.lt2 hF1.own h2; omega
        clear k1 m2 c0 hF1 hd1 hSw L1 L1' hS1 hF L hm1
        go_wp2
        go_loopw [14] (fun i wr => ∃ (k : Nat) (S : Nat → Prop), k ≤ n ∧ i = .int .i64 k ∧ HR wr g S (fH true (l.take k)) ∧ FA wr 41 gx 0 v l ∧ (∀ j, S j → w.heap.size ≤ j) ∧ (∀ j, S j → ¬ FS gx v j) ∧ Below w.heap.size w wr) (fun i _ => n - (intOf i).toNat)
        case atStart => exact ⟨0, S2, Nat.zero_le _, rfl, k2, hF2, hSw2, hd2, L2⟩
        case round =>
          clear k2 hF2 hSw2 hd2 L2
          obtain ⟨k, S, hk, rfl, kh, hF, hSb, hdj, L⟩ := hrel
          by_cases hlt : k < n
          · obtain ⟨f, hf, -⟩ := drop_fd (by omega : k < l.length)
            obtain ⟨hi, hfz⟩ := HIa.out f (List.mem_of_getElem? hf)
            have hAr := hA.below L
            obtain ⟨p, o, rfl, hp, x0, x1⟩ := hAr.fd hln k f hf
            have hsf := sumF_take l k f hf
            have hsl := sumF_le l (k + 1)
            have hE := fH_step true (l.take k) f hi hfz (by omega) (by rw [List.length_take]; omega)
            rw [← take_fd l k f hf] at hE
            have hmr := hm.below L (Nat.le_refl _)
            have hIv : HInv (fH true (l.take k)) := fH_inv true l k hIn (by omega) hsum
            have hC : ∀ q, Calls Tryz.prog 15 #[.pointer (some ⟨g, 0, none⟩), .string ((⟨f.1.toArray⟩ : ByteArray) ++ ⟨#[58, 32]⟩ ++ ⟨f.2.toArray⟩)] (wr.drewN q) (HLPost (wr.drewN q) g S (fH true (l.take (k + 1)))) := fun q => by
              have h9 := hd_Line g S (fH true (l.take k)) ((⟨f.1.toArray⟩ : ByteArray) ++ ⟨#[58, 32]⟩ ++ ⟨f.2.toArray⟩) (wr.drewN q) (kh.belowW (below_drewN' (Below.refl _ _) q)) hIv (by rw [← len_data, app_data, app_data]; simp; omega) (hmr.drewN q) (hi_of hm hSb)
              rw [show ((⟨f.1.toArray⟩ : ByteArray) ++ ⟨#[58, 32]⟩ ++ ⟨f.2.toArray⟩ : ByteArray).data.toList = fLine f by rw [app_data, app_data]; rfl, hE] at h9
              exact h9
            have Hsl := Lib.hid hsl
            have Hf := Lib.hid hf
            have Hsf := Lib.hid hsf
            have HE9 := Lib.hid hE
            clear hsl hsf hE hf hi hAr hmr hIv
            unfold HLPost at hC
            have hX : ∀ W, Below w.heap.size w W → W.cell? ⟨p, o + k * 2, none⟩ = some (sv f.1) ∧ W.cell? ⟨p, o + k * 2 + 1, none⟩ = some (sv f.2) := fun W hb => by
              obtain ⟨p', o', e', hp', y0, y1⟩ := (hA.below hb).fd hln k f Hf.out
              injection e' with e'
              injection e' with e1 e2
              subst e1 e2
              exact ⟨y0, y1⟩
            have hq1 : ¬ 9223372036854775807 < f.1.length + 2 := by omega
            have hq2 : ¬ 9223372036854775807 < f.1.length + 2 + f.2.length := by omega
            go_wp2_with fail
            go_region_held3 (fun w' => w'.cell? ⟨p, o + k * 2, none⟩ = some (sv f.1) ∧ w'.cell? ⟨p, o + k * 2 + 1, none⟩ = some (sv f.2))
              (first | go_keep | exact X4)
              (first
                | (go_at_call 15
                   refine (hC 0).mono ?_
                   rintro e w4 ⟨rfl, S4, k4, m4⟩
                   have m4' : Moved S S4 wr w4 := Fr.drewMoved m4
                   have X4 : w4.cell? ⟨p, o + k * 2, none⟩ = some (sv f.1) ∧ w4.cell? ⟨p, o + k * 2 + 1, none⟩ = some (sv f.2) := hX w4 (moved_below m4' L hSb))
                | (go_at_call 15
                   refine (hC 1).mono ?_
                   rintro e w4 ⟨rfl, S4, k4, m4⟩
                   have m4' : Moved S S4 wr w4 := Fr.drewMoved m4
                   have X4 : w4.cell? ⟨p, o + k * 2, none⟩ = some (sv f.1) ∧ w4.cell? ⟨p, o + k * 2 + 1, none⟩ = some (sv f.2) := hX w4 (moved_below m4' L hSb)))
            have L4 := moved_below m4' L hSb
            have hSb4 := moved_hs m4' L.size hSb
            have hF4 := hF.fr m4'.fr (fun h => hdj _ h (.inl rfl)) (fun j h1 h2 => hdj _ h2 (.inr h1))
            have hdj4 : ∀ i, S4 i → ¬ FS gx v i := fun i h1 h2 => by
              rcases m4'.foot i h1 with h3 | h3
              · exact hdj i h3 h2
              · rcases h2 with rfl | h2
                · have := hF.blk.lt; omega
                · have := Own.lt2 hF.own h2; omega
            go_wp2_with fail
            go_roundw
            case rel => exact ⟨k + 1, S4, by omega, by go_num, k4, hF4, hSb4, hdj4, L4⟩
            case measure => simp [intOf]; omega
          · obtain rfl : k = n := by omega
            have htk : l.take k = l := List.take_of_length_le (by omega)
            rw [htk] at kh
            obtain ⟨y, hy⟩ : ∃ y, y = frmL true l := ⟨_, rfl⟩
            obtain ⟨y, st⟩ := y
            obtain ⟨E, hE⟩ : ∃ E, E = { fH true l with bytes := 18 + sumF l, how := y, status := st, whole := decide (st = 0) } := ⟨_, rfl⟩
            have hEe : hLine (fH true l) [] = E := by rw [fH_end true l hsum, ← hy, hE]
            have hIv : HInv (fH true l) := by have h9 := fH_inv true l k hIn (by omega) hsum; rw [htk] at h9; exact h9
            have hIE : HInv E := by rw [← hEe]; exact hLine_inv _ _ hIv
            have hEw : E.whole = (st == 0) := by rw [hE]; exact (Bool.eq_iff_iff.2 (by simp))
            have hEs : E.status = st := by rw [hE]
            have hEh : E.how = y := by rw [hE]
            have hEf : E.flds = l := by rw [hE]; rfl
            have hmr := hm.below L (Nat.le_refl _)
            have hsz : FdSz l := hIn
            have hOf : ∀ W, Below wr.heap.size wr W ∨ (FA W 41 gx 0 v l) → FA W 41 gx 0 v l → Calls Tryz.prog 22 #[.int .i64 1, .pointer (some ⟨gx, 0, none⟩)] W fun e w' => e = .returned (howR (y, st)) ∧ Below W.heap.size W w' := fun W _ hFW => by
              rw [hy]; exact r12_Of 1 (some ⟨gx, 0, none⟩) l W (.inr ⟨gx, rfl, hFW.rd⟩) (by omega) hsz (by decide) (by decide)
            have hC := hd_Line g S (fH true l) ⟨#[]⟩ wr kh hIv (by decide) hmr (hi_of hm hSb)
            rw [show (⟨#[]⟩ : ByteArray).data.toList = [] from rfl, hEe] at hC
            unfold HLPost at hC
            rw [hEw, hEs] at hC
            clear hE hEe hy htk hIv
            go_wp2_with fail
            refine hC.mono ?_
            rintro e w4 ⟨rfl, S4, k4, m4⟩
            have L4 := moved_below m4 L hSb
            have hF4 := hF.fr m4.fr (fun h => hdj _ h (.inl rfl)) (fun j h1 h2 => hdj _ h2 (.inr h1))
            clear hC kh m4 hF hSb hdj L hmr
            rw [show howR (y, st) = .tuple #[howV y, .int .i64 st] from rfl] at hOf
            go_wp2_with fail
            refine (hOf w4 (.inr hF4) hF4).mono ?_
            rintro e w5 ⟨rfl, M5⟩
            have L5 := stepW L4 M5
            have k5 := k4.belowW M5
            have LA := allocW (Below.refl w5.heap.size w5) (.cells #[.int .i64 y.kind, .int .i64 y.len, .bool y.close, .bool y.expect] 42)
            have BA := Blk.new w5 42 #[.int .i64 y.kind, .int .i64 y.len, .bool y.close, .bool y.expect]
            obtain ⟨U, hU⟩ : ∃ U, U = w5.alloc (.cells #[.int .i64 y.kind, .int .i64 y.len, .bool y.close, .bool y.expect] 42) := ⟨_, rfl⟩
            rw [← hU] at LA BA
            have k6 := k5.belowW LA
            have L6 := stepW L5 LA
            have hHow := hd_How g S4 E U k6
            rw [hEh] at hHow
            unfold howV
            go_wp2_with fail
            rw [← hU]
            clear hU LA k5 M5 hF4 k4 hOf
            obtain ⟨h5, hh5⟩ : ∃ h5, h5 = w5.heap.size := ⟨_, rfl⟩
            rw [← hh5] at BA ⊢
            clear hh5
            refine hHow.mono ?_
            rintro e w7 ⟨rfl, M7⟩
            have L7 := stepW L6 M7
            have B7 := BA.belowW M7
            have k7 := k6.belowW M7
            have LB := allocW (Below.refl w7.heap.size w7) (.cells #[.int .i64 y.kind, .int .i64 y.len, .bool y.close, .bool y.expect] 30)
            have BB := Blk.new w7 30 #[.int .i64 y.kind, .int .i64 y.len, .bool y.close, .bool y.expect]
            obtain ⟨V, hV⟩ : ∃ V, V = w7.alloc (.cells #[.int .i64 y.kind, .int .i64 y.len, .bool y.close, .bool y.expect] 30) := ⟨_, rfl⟩
            rw [← hV] at LB BB
            have B8 := B7.belowW LB
            have k8 := k7.belowW LB
            have L8 := stepW L7 LB
            obtain ⟨pf, d0, hFR⟩ := k8.f0
            rw [hEf] at hFR
            have hAll := fld_All pf l V hFR (by omega)
            have d0' : (w7.alloc (.cells #[.int .i64 y.kind, .int .i64 y.len, .bool y.close, .bool y.expect] 30)).cell? ⟨g, 0, none⟩ = some (.pointer (some ⟨pf, 0, none⟩)) := by rw [← hV]; exact d0
            unfold howV
            go_wp2_with fail
            rw [← hV]
            clear hV d0'
            refine hAll.mono ?_
            rintro e w9 ⟨⟨v9, rfl, ho9⟩, M9⟩
            obtain ⟨A9, c9, rfl, -, -, hr9⟩ := OF.form ho9
            have L9 := stepW L8 M9
            have hA9 := (hA.below L9).more L9.size
            have B9 := B8.belowW M9
            have C9 := BB.belowW M9
            obtain ⟨h7, hh7⟩ : ∃ h7, h7 = w7.heap.size := ⟨_, rfl⟩
            rw [← hh7] at C9 ⊢
            rw [hln] at hr9
            have hF13 := law_fields13_eq A9 k c9 l A k c w9 hr9 hA9 (by unfold maxLen; omega)
            have hB9 := B9.lt
            have hC9 := C9.lt
            clear hh7 hAll hFR d0 B8 BB B7 BA M9 ho9 L4 L5 L6 L7 L8
            go_wp2_with fail
            refine hF13.mono ?_
            rintro e w10 ⟨rfl, M10⟩
            have L10 := stepW L9 M10
            obtain ⟨b0, b1, b2, b3, -, -, -, -⟩ := (B9.belowW M10).c4
            obtain ⟨c0, c1, c2, c3, -, -, -, -⟩ := (C9.belowW M10).c4
            clear hF13 B9 C9 hr9 hA9
            go_wp2_with fail
            refine (hK w10 L10).mono ?_
            rintro e w11 ⟨rfl, M11⟩
            go_wp2
            go_ret
            exact ⟨rfl, stepW L10 M11⟩
end Go.Proofs.YtmnnbfaaaifcoaaGreatDoor
