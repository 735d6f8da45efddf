/- usherlaw11: TargetWhole. -/
import Derived.Test.YtfpojnijjpojlaaDoorTPl3
import Derived.Test.YtfpojnijjpojlaaDoorTLaw1
namespace Go.Proofs.YtfpojnijjpojlaaDoor
open Go.RowKit
set_option maxRecDepth 100000
set_option maxHeartbeats 4000000

theorem orgR_err (t : Tgt) (s : Bs) : (orgR t s = (tgt0, 8) ∧ ∀ u : Tgt, orgR u s = (tgt0, 8)) ∨ ∃ p q, orgR t s = ({ t with path := p, query := q }, 0) ∧ ∀ u : Tgt, orgR u s = ({ u with path := p, query := q }, 0) := by
  unfold orgR
  cases originL s with
  | none => exact .inl ⟨rfl, fun _ => rfl⟩
  | some p => exact .inr ⟨p, sndB 63 s, rfl, fun _ => rfl⟩
theorem low_http : lowL [104, 116, 116, 112, 58, 47, 47] = httpB := by decide +kernel
theorem low_HTTP : lowL [72, 84, 84, 80, 58, 47, 47] = httpB := by decide +kernel
theorem whole_pure (host s : ByteArray) (h150 : host.size + s.size ≤ 150) (hp : preB [47] s.data.toList = true) :
    ∃ X1 X2 : ByteArray, (⟨#[104, 116, 116, 112, 58, 47, 47]⟩ ++ host) ++ s = X1 ∧ (⟨#[72, 84, 84, 80, 58, 47, 47]⟩ ++ host) ++ s = X2 ∧ X1.size ≤ 157 ∧ X2.size ≤ 157 ∧
      parseL getB s.data.toList = orgR ⟨1, [], [], []⟩ s.data.toList ∧ parseL getB X1.data.toList = absL (host.data.toList ++ s.data.toList) ∧ parseL getB X2.data.toList = absL (host.data.toList ++ s.data.toList) := by
  have l1 : ((⟨#[104, 116, 116, 112, 58, 47, 47]⟩ ++ host) ++ s : ByteArray).data.toList = [104, 116, 116, 112, 58, 47, 47] ++ (host.data.toList ++ s.data.toList) := by rw [app_data, app_data, List.append_assoc]
  have l2 : ((⟨#[72, 84, 84, 80, 58, 47, 47]⟩ ++ host) ++ s : ByteArray).data.toList = [72, 84, 84, 80, 58, 47, 47] ++ (host.data.toList ++ s.data.toList) := by rw [app_data, app_data, List.append_assoc]
  have n1 : ([104, 116, 116, 112, 58, 47, 47] ++ (host.data.toList ++ s.data.toList)).length ≤ 157 := by
    rw [List.length_append, List.length_append, len_data, len_data]; simp; omega
  have n2 : ([72, 84, 84, 80, 58, 47, 47] ++ (host.data.toList ++ s.data.toList)).length ≤ 157 := by
    rw [List.length_append, List.length_append, len_data, len_data]; simp; omega
  refine ⟨_, _, rfl, rfl, ?_, ?_, parse_get _ (by rw [len_data]; omega) hp, ?_, ?_⟩
  · rw [← len_data, l1]; exact n1
  · rw [← len_data, l2]; exact n2
  · rw [l1]; exact parse_abs _ _ low_http (by omega)
  · rw [l2]; exact parse_abs _ _ low_HTTP (by omega)
theorem law_Whole (host s : ByteArray) (w : World) (hh : host.size ≤ 140737488355328) (hs : s.size ≤ 140737488355328) (hm : ML w) :
    Calls Tryd.prog 7 #[.string host, .string s] w fun e w' => e = .returned (.bool true) ∧ Below w.heap.size w w' := by
  by_cases hgo : host.size + s.size ≤ 150 ∧ 0 < s.size
  · obtain ⟨h150, h0⟩ := hgo
    obtain ⟨b, hb, hbt⟩ := drop_bt s 0 h0
    rw [List.drop_zero] at hb
    have hbs := PlainAid.get_bt s
    have hs0 : ((s.size : Int) == 0) = false := by rw [Bool.eq_false_iff]; intro h; have := beq_iff_eq.1 h; omega
    by_cases h47 : b = 47
    · subst h47
      have hq : PlainAid.bt s 0 = 47 := hbt
      obtain ⟨X1, X2, e1, e2, hX1s, hX2s, k0, k1, k2⟩ := whole_pure host s h150 (by rw [hb]; rfl)
      have K0 := Lib.hid k0
      have K1 := Lib.hid k1
      have K2 := Lib.hid k2
      have Hb := Lib.hid hb
      clear k0 k1 k2 hb hbt
      go_enter Tryd.func7, Tryd.ntmps7
      go_wp2_with fail
      refine (tgt_Parse ⟨getB.toArray⟩ s w (by omega) hm).mono ?_
      rw [show (⟨getB.toArray⟩ : ByteArray).data.toList = getB from rfl, K0.out]
      generalize hr0 : orgR ⟨1, [], [], []⟩ s.data.toList = r0
      obtain ⟨t0, er0⟩ := r0
      have R0 := Lib.hid hr0
      clear hr0
      rw [tgR_mk]
      rintro e w1 ⟨rfl, L1⟩
      go_wp2_with fail
      obtain ⟨V1, hV1⟩ : ∃ V1, V1 = w1.alloc (.cells #[.int .i64 t0.form, sv t0.host, sv t0.path, sv t0.query] 33) := ⟨_, rfl⟩
      rw [← hV1]
      have LA : Below w.heap.size w V1 := by rw [hV1]; exact allocW L1 _
      have BA : Blk V1 w1.heap.size 33 #[.int .i64 t0.form, sv t0.host, sv t0.path, sv t0.query] := by rw [hV1]; exact Blk.new' _ _ rfl _ _
      clear hV1
      refine (tgt_Parse ⟨getB.toArray⟩ X1 V1 (by omega) (hm.below LA (Nat.le_refl _))).mono ?_
      rw [show (⟨getB.toArray⟩ : ByteArray).data.toList = getB from rfl, K1.out]
      generalize hr1 : absL (host.data.toList ++ s.data.toList) = r1 at *
      obtain ⟨t1, er1⟩ := r1
      have R1 := Lib.hid hr1
      clear hr1
      rw [tgR_mk]
      rintro e w2 ⟨rfl, L2⟩
      go_wp2_with fail
      obtain ⟨V2, hV2⟩ : ∃ V2, V2 = w2.alloc (.cells #[.int .i64 t1.form, sv t1.host, sv t1.path, sv t1.query] 33) := ⟨_, rfl⟩
      rw [← hV2]
      have LB : Below w.heap.size w V2 := by rw [hV2]; exact allocW (stepW LA L2) _
      have BB : Blk V2 w2.heap.size 33 #[.int .i64 t1.form, sv t1.host, sv t1.path, sv t1.query] := by rw [hV2]; exact Blk.new' _ _ rfl _ _
      have BA2 : Blk V2 w1.heap.size 33 #[.int .i64 t0.form, sv t0.host, sv t0.path, sv t0.query] := by rw [hV2]; exact (BA.belowW L2).alloc _
      clear hV2
      refine (tgt_Parse ⟨getB.toArray⟩ X2 V2 (by omega) (hm.below LB (Nat.le_refl _))).mono ?_
      rw [show (⟨getB.toArray⟩ : ByteArray).data.toList = getB from rfl, K2.out, tgR_mk]
      rintro e w3 ⟨rfl, L3⟩
      go_wp2
      obtain ⟨V3, hV3⟩ : ∃ V3, V3 = w3.alloc (.cells #[.int .i64 t1.form, sv t1.host, sv t1.path, sv t1.query] 33) := ⟨_, rfl⟩
      rw [← hV3]
      have LC : Below w.heap.size w V3 := by rw [hV3]; exact allocW (stepW LB L3) _
      have BC : Blk V3 w3.heap.size 33 #[.int .i64 t1.form, sv t1.host, sv t1.path, sv t1.query] := by rw [hV3]; exact Blk.new' _ _ rfl _ _
      have BB2 : Blk V3 w2.heap.size 33 #[.int .i64 t1.form, sv t1.host, sv t1.path, sv t1.query] := by rw [hV3]; exact (BB.belowW L3).alloc _
      have BA3 : Blk V3 w1.heap.size 33 #[.int .i64 t0.form, sv t0.host, sv t0.path, sv t0.query] := by rw [hV3]; exact (BA2.belowW L3).alloc _
      clear hV3 BA BB BA2 L1 L2 L3 LA LB K0 K1 K2
      go_loop [11] (fun i => ∃ k : Nat, k ≤ host.size ∧ i = .int .i64 k ∧ Hid (∀ b ∈ host.data.toList.take k, b ≠ 47 ∧ b ≠ 63)) (fun i => host.size - (intOf i).toNat)
      case atStart => exact ⟨0, Nat.zero_le _, rfl, by intro b hb; simp at hb⟩
      case round =>
        obtain ⟨k, hk, rfl, H⟩ := hrel
        by_cases hlt : k < host.size
        · obtain ⟨c, hc, hct⟩ := drop_bt host k hlt
          have hcs := PlainAid.get_bt host
          have hc8 := u8lt c
          by_cases hbad : c = 47 ∨ c = 63
          · have hcc : (((c.toNat : Int) == 47) = true) ∨ (((c.toNat : Int) == 47) = false ∧ ((c.toNat : Int) == 63) = true) := by
              rcases hbad with h | h <;> subst h <;> simp
            clear hc hbad
            rcases hcc with c1 | ⟨c1, c2⟩
            all_goals
              go_wp2_with fail
              refine (law11_known _ (hm.below LC (Nat.le_refl _))).mono ?_
              rintro e w4 ⟨rfl, L4⟩
              go_wp2
              go_ret
              exact ⟨rfl, stepW LC L4⟩
          · have c1 : ((c.toNat : Int) == 47) = false := by
              rw [Bool.eq_false_iff]; intro h; exact hbad (.inl (u8inj (by have := beq_iff_eq.1 h; simp; omega)))
            have c2 : ((c.toNat : Int) == 63) = false := by
              rw [Bool.eq_false_iff]; intro h; exact hbad (.inr (u8inj (by have := beq_iff_eq.1 h; simp; omega)))
            have H2 : Hid (∀ b ∈ host.data.toList.take (k + 1), b ≠ 47 ∧ b ≠ 63) := by
              intro x hx
              have hkl : k < host.data.toList.length := by rw [len_data]; exact hlt
              rw [List.take_succ_eq_append_getElem hkl] at hx
              rcases List.mem_append.1 hx with hx | hx
              · exact H.out x hx
              · have e := List.drop_eq_getElem_cons hkl
                rw [hc] at e
                have : x = c := by rw [(List.cons.inj e).1]; simpa using hx
                exact this ▸ ⟨fun h => hbad (.inl h), fun h => hbad (.inr h)⟩
            clear hc hbad H
            go_wp2
            go_round
            case rel => exact ⟨k + 1, by omega, by go_num, H2⟩
            case measure => simp [intOf]; omega
        · have hno := H.out
          rw [List.take_of_length_le (by rw [len_data]; omega)] at hno
          have hA : (if hostL host.data.toList then orgR ⟨2, lowL host.data.toList, [], []⟩ s.data.toList else (tgt0, 8)) = (t1, er1) := by
            rw [← R1.out, Hb.out]
            exact (abs_host _ _ (fun b hb => (hno b hb).1) (fun b hb => (hno b hb).2)).symm
          have hB := R0.out
          have hmC := hm.below LC (Nat.le_refl _)
          clear H hno R0 R1
          have HA := Lib.hid hA
          have HB := Lib.hid hB
          clear hA hB
          go_wp2_with fail
          refine (tgt_Host host V3 (by omega) hmC).mono ?_
          cases hH : hostL host.data.toList
          · have hE := HA.out
            rw [hH] at hE
            have x1 : er1 = 8 := (congrArg Prod.snd hE).symm
            clear hE hH HA HB BA3 BB2 BC
            rintro e w4 ⟨rfl, L4⟩
            have K4 := stepW LC L4
            go_wp2_with fail
            refine (law11_known _ (hm.below K4 (Nat.le_refl _))).mono ?_
            rintro e w5 ⟨rfl, L5⟩
            go_wp2
            go_ret
            exact ⟨rfl, stepW K4 L5⟩
          · have hE := HA.out
            rw [hH, if_pos rfl] at hE
            have hF := HB.out
            clear hH HA HB
            rcases orgR_err ⟨1, [], [], []⟩ s.data.toList with ⟨h1, h2⟩ | ⟨p, q, h1, h2⟩
            · rw [h1] at hF
              rw [h2] at hE
              have x0 : er0 = 8 := (congrArg Prod.snd hF).symm
              have x1 : er1 = 8 := (congrArg Prod.snd hE).symm
              clear hE hF h1 h2 BA3 BB2 BC
              rintro e w4 ⟨rfl, L4⟩
              have K4 := stepW LC L4
              go_wp2_with fail
              refine (law11_known _ (hm.below K4 (Nat.le_refl _))).mono ?_
              rintro e w5 ⟨rfl, L5⟩
              go_wp2
              go_ret
              exact ⟨rfl, stepW K4 L5⟩
            · rw [h1] at hF
              rw [h2] at hE
              have x0 : er0 = 0 := (congrArg Prod.snd hF).symm
              have x1 : er1 = 0 := (congrArg Prod.snd hE).symm
              have y0 : t0 = ⟨1, [], p, q⟩ := (congrArg Prod.fst hF).symm
              have y1 : t1 = ⟨2, lowL host.data.toList, p, q⟩ := (congrArg Prod.fst hE).symm
              rw [y0] at BA3
              rw [y1] at BB2 BC
              clear hE hF h1 h2 y0 y1
              rintro e w4 ⟨rfl, L4⟩
              have K4 := stepW LC L4
              obtain ⟨a0, a1, a2, a3, -, -, -, -⟩ := (BA3.belowW L4).c4
              obtain ⟨b0, b1, b2, b3, -, -, -, -⟩ := (BB2.belowW L4).c4
              obtain ⟨d0, d1, d2, d3, -, -, -, -⟩ := (BC.belowW L4).c4
              have kq := fun w : World => run_eql_tg ⟨2, lowL host.data.toList, p, q⟩ ⟨2, lowL host.data.toList, p, q⟩ w
              rw [show tgEq ⟨2, lowL host.data.toList, p, q⟩ ⟨2, lowL host.data.toList, p, q⟩ = true by simp [tgEq]] at kq
              have kg := fun (o : Operand) (o' : Operand) (xs ys : Array Value) (w : World) => run_guard_tg .eql o o' xs ys w
              clear BA3 BB2 BC
              go_wp2_with fail
              refine (law11_known _ (hm.below K4 (Nat.le_refl _))).mono ?_
              rintro e w5 ⟨rfl, L5⟩
              go_wp2
              go_ret
              exact ⟨rfl, stepW K4 L5⟩
    · have hne2 : ((b.toNat : Int) != 47) = true := by
        rw [bne_iff_ne]; intro h; exact h47 (u8inj (by simp; omega))
      clear hb h47
      go_enter Tryd.func7, Tryd.ntmps7
      go_wp2_with fail
      refine (law11_known _ hm).mono ?_
      rintro e w3 ⟨rfl, L3⟩
      go_wp2
      go_ret
      exact ⟨rfl, L3⟩
  · rcases (by omega : 150 < host.size + s.size ∨ (host.size + s.size ≤ 150 ∧ s.size = 0)) with h | ⟨h, h0⟩
    · clear hgo
      go_enter Tryd.func7, Tryd.ntmps7
      go_wp2_with fail
      refine (law11_known _ hm).mono ?_
      rintro e w3 ⟨rfl, L3⟩
      go_wp2
      go_ret
      exact ⟨rfl, L3⟩
    · obtain rfl : s = ⟨#[]⟩ := empty_size h0
      clear hgo h0
      have h' : host.size ≤ 150 := h
      go_enter Tryd.func7, Tryd.ntmps7
      go_wp2_with fail
      refine (law11_known _ hm).mono ?_
      rintro e w3 ⟨rfl, L3⟩
      go_wp2
      go_ret
      exact ⟨rfl, L3⟩
end Go.Proofs.YtfpojnijjpojlaaDoor
