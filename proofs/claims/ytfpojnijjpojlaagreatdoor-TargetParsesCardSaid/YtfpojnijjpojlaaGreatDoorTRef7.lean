/- usherref11.path. -/
import Derived.Test.YtfpojnijjpojlaaGreatDoorTRef6
import Derived.Test.YtfpojnijjpojlaaGreatDoorEnc
import Derived.Deep.RegionLaw
namespace Go.Proofs.YtfpojnijjpojlaaGreatDoor
open Go.RowKit
set_option maxRecDepth 100000
set_option maxHeartbeats 2000000

theorem step_appRd {ops : Array Oper} {o : Oper} {a : Act} {w0 w : World} {K : Act → World → Prop} {Q : Exit → Act → World → Prop} {E : Prop} (hgd : o.guard = none) (s x : Operand)
    (ho : o.op = .call { callee := .builtin .append, args := #[s, x], argTypes := #[92, 92] })
    (base : Nat) (v : Value) (l : Bs) (hs : a.eval s = v) (hown : OB w0 base v l) (hw : Below w0.heap.size w0 w) (A : Option Addr) (n c B : Nat) (hx : a.eval x = .slice A n c) (m : Bs) (hr : Rd w B 1 A n (m.map bv))
    (hlen : l.length + m.length ≤ 140737488355328) (hbase : base ≤ w0.heap.size)
    (hK : ∀ v' w', OB w' base v' (l ++ m) → Below base w0 w' → K (a.put o.dst v') w') :
    if Region.wanted o (yielded ops a.tmps) = true then Oper.wp Tryz.prog o a w K Q else E := by
  have hwt : Region.wanted o (yielded ops a.tmps) = true := by simp [Region.wanted, hgd]
  rw [if_pos hwt]
  have hn : m.length = n := by simpa using hr.1
  subst hn
  obtain ⟨i0, hi, hz0, hz1, hz2⟩ := info_parts info_b8
  obtain ⟨v', w', hrun, h2, h3, h4⟩ := run_append_Own (P := Tryz.prog) w base 92 92 o.type 5 i0 _ 1 1 Tryz.underlying92 (.inl Tryz.underlying92) hi hz0 hz1 hz2 rfl (by decide) v l.length _ (hown.belowW hw) (.slice A m.length c) m.length _ (Src.of_rd hr (bv_one m)) (by unfold maxLen; omega) (by omega) (Nat.le_trans hbase hw.size)
  have e : (l.map bv ++ m.map bv) = (l ++ m).map bv := by simp
  rw [e] at h2
  have key := hK v' w' (by unfold OB; rw [List.length_append]; exact h2) ((ext_of hw h3 h4).below hown (Nat.le_refl _) hbase)
  unfold Oper.wp
  simp [execOp, ho, resolve, invoke, builtin, hs, hx, hrun, Result.andThen]
  exact key
theorem ref11_path (s : ByteArray) (w : World) (hs : s.size ≤ 4294967281) :
    Calls Tryz.prog 34 #[.string s] w fun e w' => e = .returned (sv (pathL s.data.toList)) ∧ Below w.heap.size w w' := by
  go_enter Tryz.func34, Tryz.ntmps34
  go_wp2
  go_loopw [3, 4] (fun v i wr => ∃ k : Nat, k ≤ s.size ∧ i = .int .i64 k ∧ OB wr w.heap.size v (pathL (s.data.toList.take k)) ∧ Below w.heap.size w wr) (fun _ i _ => s.size - (intOf i).toNat)
  case atStart => exact ⟨0, Nat.zero_le _, rfl, OB.nil _ _, Below.refl _ _⟩
  case round =>
    obtain ⟨k, hk, rfl, ho, L⟩ := hrel
    have hlen : (pathL (s.data.toList.take k)).length ≤ 3 * 4294967281 := Nat.le_trans (pathL_len _) (Nat.mul_le_mul_left _ (Nat.le_trans (List.length_take_le _ _) (by omega)))
    have hS := L.size
    by_cases hlt : k < s.size
    · obtain ⟨b, hb, hbt⟩ := drop_bt s k hlt
      have hbs := PlainAid.get_bt s
      have hb8 := u8lt b
      have hkb : s.data.toList[k]? = some b := by rw [← List.head?_drop, hb]; rfl
      have hP := Lib.hid (pathL_one _ k b hkb)
      have hof := Lib.hid (show ofB plainS b = (alnumB b.toNat || inL b.toNat plainS) by rw [inL_contains b plainS]; rfl)
      clear hb hkb
      cases hA : alnumB b.toNat
      · cases hI : inL b.toNat plainS
        · have HE := Lib.hid (encB_no b (by rw [hof.out, hA, hI]; rfl))
          go_wp2_with fail
          refine (ref_Alnum _ _ (by omega) hb8).mono ?_
          rw [hA]
          rintro e w1 ⟨rfl, rfl⟩
          go_wp2_with fail
          refine (ref_In _ _ _ (by decide) (by omega) hb8).mono ?_
          rw [show (⟨#[45, 46, 95, 126, 33, 36, 38, 39, 40, 41, 42, 43, 44, 59, 61, 58, 64, 47]⟩ : ByteArray).data.toList = plainS from rfl, hI]
          rintro e w1 ⟨rfl, rfl⟩
          clear hA hI hof
          have f1 := uD_hi b
          have f2 := uD_lo b
          have f3 : bits BinOp.and IntKind.u8 (b.toNat : Int) 15 = ((b.toNat % 16 : Nat) : Int) := by rw [u8_and15 (x := (b.toNat : Int)) (by omega) (by omega)]; omega
          have q1 : ((b.toNat : Int) % 16).toNat = b.toNat % 16 := by omega
          have q2 : (0 : Int) ≤ (b.toNat : Int) % 16 := by omega
          have q3 : (b.toNat : Int) % 16 < 16 := by omega
          have q4 : ((b.toNat : Int) / 16).toNat = b.toNat / 16 := by omega
          have q5 : (0 : Int) ≤ (b.toNat : Int) / 16 := by omega
          have q6 : (b.toNat : Int) / 16 < 16 := by omega
          have q7 : b.toNat % 16 < 16 := by omega
          have q8 : b.toNat / 16 < 16 := by omega
          have g2 := PlainAid.get_bt ⟨#[48, 49, 50, 51, 52, 53, 54, 55, 56, 57, 65, 66, 67, 68, 69, 70]⟩
          go_wp2
          go_region_law (refine step_appRd rfl (.tmp 25) (.tmp 32) rfl w.heap.size _ _ rfl ho (allocW ((Below.refl _ _).drew) _) _ 3 3 (wr.heap.size + 1) rfl [37, uD (b.toNat / 16), uD (b.toNat % 16)] (Rd.new wr.drew _ rfl [bv 37, bv (uD (b.toNat / 16)), bv (uD (b.toNat % 16))] _ 3 1 rfl) (by simp; omega) hS ?_; intro v' w3 ho3 hx3)
          all_goals
            go_wp2
            refine ⟨⟨k + 1, by omega, by go_num, by rw [hP.out, HE.out]; assumption, L.trans (by assumption)⟩, ?_⟩
            simp [intOf]; omega
        · have HE := Lib.hid (encB_yes b (by rw [hof.out, hA, hI]; rfl))
          go_wp2_with fail
          refine (ref_Alnum _ _ (by omega) hb8).mono ?_
          rw [hA]
          rintro e w1 ⟨rfl, rfl⟩
          go_wp2_with fail
          refine (ref_In _ _ _ (by decide) (by omega) hb8).mono ?_
          rw [show (⟨#[45, 46, 95, 126, 33, 36, 38, 39, 40, 41, 42, 43, 44, 59, 61, 58, 64, 47]⟩ : ByteArray).data.toList = plainS from rfl, hI]
          rintro e w1 ⟨rfl, rfl⟩
          clear hA hI hof
          go_wp2_with (at_builtin; refine wp_app1 rfl _ _ rfl w.heap.size _ _ rfl ho _ rfl _ rfl b rfl (by omega) hS ?_; intro v' w2 ho2 hx)
          go_roundw
          case rel => exact ⟨k + 1, by omega, by go_num, by rw [hP.out, HE.out]; exact ho2, L.trans (hx.below ho (Nat.le_refl _) hS)⟩
          case measure => simp [intOf]; omega
      · have HE := Lib.hid (encB_yes b (by rw [hof.out, hA]; rfl))
        go_wp2_with fail
        refine (ref_Alnum _ _ (by omega) hb8).mono ?_
        rw [hA]
        rintro e w1 ⟨rfl, rfl⟩
        clear hA hof
        go_wp2_with (at_builtin; refine wp_app1 rfl _ _ rfl w.heap.size _ _ rfl ho _ rfl _ rfl b rfl (by omega) hS ?_; intro v' w2 ho2 hx)
        go_roundw
        case rel => exact ⟨k + 1, by omega, by go_num, by rw [hP.out, HE.out]; exact ho2, L.trans (hx.below ho (Nat.le_refl _) hS)⟩
        case measure => simp [intOf]; omega
    · have e : s.data.toList.take k = s.data.toList := List.take_of_length_le (by rw [len_data]; omega)
      rw [e] at ho
      clear e
      
      go_wp2_with (refine wp_strOB rfl (.tmp 34) rfl _ _ _ rfl ho ?_)
      go_ret
      exact ⟨rfl, L⟩
end Go.Proofs.YtfpojnijjpojlaaGreatDoor
