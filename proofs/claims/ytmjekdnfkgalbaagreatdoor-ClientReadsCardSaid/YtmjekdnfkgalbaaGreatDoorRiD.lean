/- usherref18.Encode. -/
import Derived.Test.YtmjekdnfkgalbaaGreatDoorRiC
import Derived.Test.YtmjekdnfkgalbaaGreatDoorLw18
import Derived.Test.YtmjekdnfkgalbaaGreatDoorReJ
import Derived.Test.YtmjekdnfkgalbaaGreatDoorEncR
import Derived.Deep.CutBlock
import Derived.BigQuiet
namespace Go.Proofs.YtmjekdnfkgalbaaGreatDoor
open Go.RowKit
set_option maxRecDepth 100000
set_option maxHeartbeats 4000000

theorem step_appPs {ops : Array Oper} {o : Oper} {a : Act} {K : Act → World → Prop} {Q : Exit → Act → World → Prop} {E : Prop} {w0 : World} (hgd : o.guard = none) (s x : Operand)
    (ho : o.op = .call { callee := .builtin .append, args := #[s, x], argTypes := #[61, 61] })
    (base : Nat) (v : Value) (ps : List Bs) (hs : a.eval s = v) (hown : OPs w0 base v ps) (g : Nat) (hg : g = w0.heap.size) (A : Option Addr) (m c : Nat) (p : Bs) (hpm : p.length = m) (hx : a.eval x = .slice (some ⟨g, 0, none⟩) 1 1)
    (hr : Rd w0 w0.heap.size 1 A p.length (p.map bv)) (hne : 0 < p.length → ∀ b, A = some b → v.ownBlock ≠ some b.block)
    (hlen : ps.length + 1 ≤ 1000000) (hbase : base ≤ w0.heap.size)
    (h : ∀ v' w', OPs w' base v' (ps ++ [p]) → Ext w0 w' v v' → K (a.put o.dst v') w') :
    if Region.wanted o (yielded ops a.tmps) = true then Oper.wp Tryz.prog o a (w0.alloc (.cells #[.slice A m c] 22)) K Q else E := by
  have hwt : Region.wanted o (yielded ops a.tmps) = true := by simp [Region.wanted, hgd]
  rw [if_pos hwt]
  subst hpm
  obtain ⟨i0, hi, hz0, hz1, hz2⟩ := info_parts info_bb
  subst hg
  obtain ⟨vs, hown, hrd⟩ := hown
  have hvl : vs.length = ps.length := by simpa using hown.1
  obtain ⟨v', w', hrun, ho', hg', ha⟩ := run_append_Own (P := Tryz.prog) (w0.alloc (.cells #[.slice A p.length c] 22)) base 61 61 o.type 22 i0 _ 1 24 Tryz.underlying61 (.inl Tryz.underlying61) hi hz0 hz1 hz2 rfl (by decide) v ps.length _ (hown.alloc _) (.slice (some ⟨w0.heap.size, 0, none⟩) 1 1) 1 [.slice A p.length c] (Src.of_rd (Rd.new w0 _ rfl [.slice A p.length c] _ 1 1 rfl) (by intro u hu; simp at hu; subst hu; rfl)) (by unfold maxLen; omega) (by omega) (Nat.le_trans hbase (by simp))
  have hx2 : Ext w0 w' v v' := ext_of (allocW (Below.refl _ _) _) hg' ha
  have keep : ∀ (Ai : Option Addr) (q : Bs), Rd w0 w0.heap.size 1 Ai q.length (q.map bv) → (0 < q.length → ∀ b, Ai = some b → v.ownBlock ≠ some b.block) → Rd w' w'.heap.size 1 Ai q.length (q.map bv) ∧ (0 < q.length → ∀ b, Ai = some b → v'.ownBlock ≠ some b.block) := by
    intro Ai q hq hn
    refine ⟨(hq.frm (Nat.le_refl _) hx2.fr fun h0 b hb => hn h0 b hb).more hx2.fr.size, fun h0 b hb hv => ?_⟩
    obtain ⟨b1, o1, e1, hlt, -⟩ := hq.2 h0
    have e2 := e1
    rw [hb] at e2
    injection e2 with e2
    subst e2
    rcases hx2.own _ hv with h1 | h1
    · exact hn h0 _ hb h1
    · simp only at h1; omega
  unfold Oper.wp
  simp [execOp, ho, resolve, invoke, builtin, hs, hx, hrun, Result.andThen]
  refine h v' w' ⟨vs ++ [.slice A p.length c], by rw [List.length_append]; exact ho', fun i q hq => ?_⟩ hx2
  rcases Nat.lt_or_ge i ps.length with hi | hi
  · rw [List.getElem?_append_left hi] at hq
    obtain ⟨Ai, ci, e, h1, h2⟩ := hrd i q hq
    obtain ⟨k1, k2⟩ := keep Ai q h1 h2
    exact ⟨Ai, ci, by rw [List.getElem?_append_left (by omega)]; exact e, k1, k2⟩
  · have hi2 : i = ps.length := by
      have := (List.getElem?_eq_some_iff.1 hq).1
      simp at this; omega
    subst hi2
    obtain rfl : p = q := by simpa using hq
    obtain ⟨k1, k2⟩ := keep A p hr hne
    exact ⟨A, c, by rw [List.getElem?_append_right (by omega), hvl]; simp, k1, k2⟩
theorem sv_cat (a b : Bs) : (⟨a.toArray⟩ : ByteArray) ++ ⟨b.toArray⟩ = ⟨(a ++ b).toArray⟩ := str_ext (by rw [app_data])
theorem add_rule (a b c : Bs) (h : a ++ b = c) (hl : c.length ≤ 1000000) (w : World) : (Op.stringOp .add ⟨a.toArray⟩ ⟨b.toArray⟩).run Tryz.prog w = .ok (.string ⟨c.toArray⟩) w := by
  subst h
  rw [List.length_append] at hl
  exact run_string_add_lists w a b (by omega) (by omega)
theorem Ext.undrew {w w' : World} {v v' : Value} (h : Ext w.drew w' v v') : Ext w w' v v' := ⟨⟨h.fr.os, h.fr.tape, h.fr.output, h.fr.size, h.fr.block⟩, h.own⟩
theorem body_ref (r : Rs) (minor : Int) (h : noBody r.st = true → r.b = [] ∧ r.p = []) : bodyR r false minor = if chunkedR r minor then encL (cutP r.b 0 r.p) else r.b := by
  rw [bodyR]
  cases hn : noBody r.st
  · rfl
  · obtain ⟨h1, h2⟩ := h hn
    rw [chunkedR, h1, h2]; rfl
theorem ref_Encode (x : RsP) (head : Bool) (minor : Int) (close : Bool) (w : World) (hR : RsR w x) (hZ : RsZ x) (hL : isOneL x.r = true → Light x.r) :
    Calls Tryz.prog 12 #[rsW x, .bool head, .int .i64 minor, .bool close] w (EncPost w (encR x.r head minor close)) := by
  have hI := fun w' (h : RsR w' x) => ref_may x w' h hZ
  obtain ⟨r, Af, cf, Ab, cb, Ap, cp⟩ := x
  have hzf : r.f.length ≤ 1000000 := hZ.f
  have hzb : r.b.length ≤ 1000000 := hZ.b
  have hzp : r.p.length ≤ 1000000 := hZ.p
  have hcb : r.b.length ≤ cb := hR.cb
  have hL' : isOneL r = true → Light r := hL
  clear hL
  show Calls Tryz.prog 12 #[.agg #[.int .i64 r.st, .slice Af r.f.length cf, .slice Ab r.b.length cb, .slice Ap r.p.length cp], .bool head, .int .i64 minor, .bool close] w (EncPost w (encR r head minor close))
  go_enter Tryz.func12, Tryz.ntmps12
  go_upto_region 1 with (fail)
  obtain ⟨U, hU⟩ : ∃ U, U = w.alloc (.cells #[.int .i64 r.st, .slice Af r.f.length cf, .slice Ab r.b.length cb, .slice Ap r.p.length cp] 38) := ⟨_, rfl⟩
  rw [← hU]
  have LU : Below w.heap.size w U := by rw [hU]; exact allocW (Below.refl _ _) _
  have BU : Blk U w.heap.size 38 #[.int .i64 r.st, .slice Af r.f.length cf, .slice Ab r.b.length cb, .slice Ap r.p.length cp] := by rw [hU]; exact Blk.new' _ _ rfl _ _
  clear hU
  have RU : RB U w.heap.size ⟨r, Af, cf, Ab, cb, Ap, cp⟩ := ⟨BU, hR.belowW LU⟩
  obtain ⟨x0, x1, x2, x3, z0, z1, z2, z3⟩ := BU.c4
  go_wp2_with fail
  refine (hI U RU.row).mono ?_
  rintro e V ⟨rfl, L1⟩
  have LV := stepW LU L1
  have RV := RU.belowW L1
  clear x0 x1 x2 x3 z0 z1 z2 z3 BU RU hI LU L1 hR
  cases hone : isOneL r
  · have HE := Lib.hid (show encR r head minor close = ([], 1) by rw [encR, hone]; rfl)
    clear hone
    go_wp2_with fail
    go_ret2
    exact ⟨none, 0, by rw [HE.out]; rfl, by rw [HE.out]; exact Nat.le_refl _, by rw [HE.out]; exact Own.nil _ _ _ _, LV⟩
  · have hLt := hL' hone
    have HLN := Lib.hid (all_short r head minor close hLt hone)
    have HCF := Lib.hid (cut_flat r hLt hone)
    have HPF := Lib.hid (show (prtF r.b.length 0 r.p).isSome = true by obtain ⟨-, -, -, -, last, h9, -⟩ := one_parts r hone; rw [h9]; rfl)
    have HE := Lib.hid (show encR r head minor close = (allR r head minor close, 0) by rw [encR, if_pos hone, if_neg (by have := HLN.out; omega)])
    obtain ⟨hst, hnbp, -⟩ := one_parts r hone
    have HBR := Lib.hid (body_ref r minor hnbp)
    clear hnbp
    have HAL := Lib.hid (all_le r head minor close)
    clear hone hL' hLt
    obtain ⟨x0, x1, x2, x3, z0, z1, z2, z3⟩ := RV.blk.c4
    go_upto_region 3 with (fail)
    go_cut [10] (fun v10 wx => v10 = sv (startR r.st) ∧ Below V.heap.size V wx)
    case first =>
      have hD := fun w' => ref_Dec r.st w' (by omega)
      have hPh := fun w' => ref_Phrase r.st w'
      have HC : ∀ w', Below V.heap.size V w' → w'.cell? ⟨w.heap.size, 0, none⟩ = some (.int .i64 r.st) ∧ w'.frozen? ⟨w.heap.size, 0, none⟩ = false := by
        intro w' h
        obtain ⟨h1, -, -, -, h2, -, -, -⟩ := (RV.belowW h).blk.c4
        exact ⟨h1, h2⟩
      have hdl := digs10_len r.st.toNat (by omega)
      have hpl := phrase_len r.st
      have hsl := start_len r.st (by omega)
      have hsr : startR r.st = begB ++ digs 10 r.st.toNat ++ [32] ++ phraseL r.st ++ crlf := rfl
      generalize digs 10 r.st.toNat = D at *
      generalize phraseL r.st = Ph at *
      generalize startR r.st = S4 at *
      obtain ⟨S1, h1⟩ : ∃ S1, begB ++ D = S1 := ⟨_, rfl⟩
      obtain ⟨S2, h2⟩ : ∃ S2, S1 ++ [32] = S2 := ⟨_, rfl⟩
      obtain ⟨S3, h3⟩ : ∃ S3, S2 ++ Ph = S3 := ⟨_, rfl⟩
      have h4 : S3 ++ [13, 10] = S4 := by rw [hsr, ← h3, ← h2, ← h1]; rfl
      have l4 : S4.length = S3.length + 2 := by rw [← h4]; simp
      have l3 : S3.length = S2.length + Ph.length := by rw [← h3]; simp
      have l2 : S2.length = S1.length + 1 := by rw [← h2]; simp
      have a1 : ∀ w, (Op.stringOp .add ⟨#[72, 84, 84, 80, 47, 49, 46, 49, 32]⟩ ⟨D.toArray⟩).run Tryz.prog w = .ok (.string ⟨S1.toArray⟩) w := add_rule _ _ _ h1 (by omega)
      have a2 : ∀ w, (Op.stringOp .add ⟨S1.toArray⟩ ⟨#[32]⟩).run Tryz.prog w = .ok (.string ⟨S2.toArray⟩) w := add_rule _ _ _ h2 (by omega)
      have a3 : ∀ w, (Op.stringOp .add ⟨S2.toArray⟩ ⟨Ph.toArray⟩).run Tryz.prog w = .ok (.string ⟨S3.toArray⟩) w := add_rule _ _ _ h3 (by omega)
      have a4 : ∀ w, (Op.stringOp .add ⟨S3.toArray⟩ ⟨#[13, 10]⟩).run Tryz.prog w = .ok (.string ⟨S4.toArray⟩) w := add_rule _ _ _ h4 (by omega)
      clear h1 h2 h3 h4 l2 l3 l4 hdl hpl hsl x0 x1 x2 x3 z0 z1 z2 z3 hsr HBR HLN HCF HPF HE HAL hzf hzb hzp hcb
      obtain ⟨y0, y1⟩ := HC _ (Below.refl _ _)
      go_region_held3 (fun w' => w'.cell? ⟨w.heap.size, 0, none⟩ = some (.int .i64 r.st) ∧ w'.frozen? ⟨w.heap.size, 0, none⟩ = false)
        (first | go_keep | with_reducible exact X4)
        (first
          | (go_at_call 28
             refine (hD _).mono ?_
             rintro e w4 ⟨rfl, L4⟩
             have N4 := stepW (Below.refl V.heap.size V).drew L4
             have X4 := HC _ N4)
          | (go_at_call 29
             refine (hPh _).mono ?_
             rintro e w5 ⟨rfl, rfl⟩))
      go_wp2_with fail
      go_meet
      case rel => exact ⟨rfl, N4⟩
    case rest =>
      obtain ⟨rfl, LW⟩ := hcut
      rename World => Wf
      clear x0 x1 x2 x3 z0 z1 z2 z3
      have hal := HAL.out
      have hln := HLN.out
      have hsum : (startR r.st).length + (rfsL r.f).length + (codeR r minor).length + (lastR minor close).length + 2 + (bodyR r head minor).length ≤ 65536 := by omega
      clear hal hln HAL
      have HSUM := Lib.hid hsum
      clear hsum
      have hS0 : Hid (startR r.st = startR r.st ++ rfsL (r.f.take 0)) := Lib.hid (by simp [rfsL])
      have RW := RV.belowW LW
      have hrf : Rd Wf Wf.heap.size 2 Af r.f.length (fcells r.f) := RW.row.rf
      generalize hs0 : startR r.st = S0 at *
      have HS0 := Lib.hid hs0
      clear hs0 hst
      obtain ⟨x0, x1, x2, x3, -⟩ := RW.blk.c4
      go_wp2_with fail
      go_loopw [10, 11, 12] (fun v10 v11 v12 wr => ∃ (k q : Nat) (S : Bs), k ≤ r.f.length ∧ v12 = .int .i64 k ∧ v10 = sv S ∧ v11 = .int .i64 (S.length : Int) ∧ Hid (S = S0 ++ rfsL (r.f.take k)) ∧ wr = Wf.drewN q) (fun _ _ v12 _ => r.f.length - (intOf v12).toNat)
      case atStart => exact ⟨0, 0, S0, Nat.zero_le _, rfl, rfl, rfl, hS0, rfl⟩
      case round =>
        clear hS0
        obtain ⟨k, q, S, hk, rfl, rfl, rfl, HS, rfl⟩ := hrel
        by_cases hlt : k < r.f.length
        · obtain ⟨f, hf, hd⟩ := drop_fd hlt
          obtain ⟨b, o, rfl, hbB, y0, y1⟩ := Rd.fd hrf rfl k f hf
          have hst9 := rfs_step hf
          have hle := rfs_le r.f (k + 1)
          have hsum := HSUM.out
          obtain ⟨T1, h1⟩ : ∃ T1, S ++ f.1 = T1 := ⟨_, rfl⟩
          obtain ⟨T2, h2⟩ : ∃ T2, T1 ++ [58, 32] = T2 := ⟨_, rfl⟩
          obtain ⟨T3, h3⟩ : ∃ T3, T2 ++ f.2 = T3 := ⟨_, rfl⟩
          obtain ⟨T4, h4⟩ : ∃ T4, T3 ++ [13, 10] = T4 := ⟨_, rfl⟩
          have HT : Hid (T4 = S0 ++ rfsL (r.f.take (k + 1))) := Lib.hid (by rw [← h4, ← h3, ← h2, ← h1, HS.out, hst9, rfL]; simp [csB, crlf])
          have l4 : T4.length = S.length + f.1.length + f.2.length + 4 := by rw [← h4, ← h3, ← h2, ← h1]; simp; omega
          have l5 : T4.length ≤ 65536 := by rw [HT.out, List.length_append]; omega
          have l3 : T3.length ≤ 1000000 := by have : T4.length = T3.length + 2 := by rw [← h4]; simp
                                              omega
          have l2 : T2.length ≤ T3.length := by rw [← h3, List.length_append]; omega
          have l1 : T1.length ≤ T2.length := by rw [← h2, List.length_append]; omega
          have hbn : S.length + f.1.length + f.2.length + 4 ≤ 65536 := by omega
          have hbd : decide ((65536 : Int) < (S.length : Int) + (f.1.length : Int) + (f.2.length : Int) + 4) = false := decide_eq_false (by omega)
          have hnn : (S.length : Int) + (f.1.length : Int) + (f.2.length : Int) + 4 = (T4.length : Int) := by omega
          have HNN := Lib.hid hnn
          have a1 : ∀ w, (Op.stringOp .add ⟨S.toArray⟩ ⟨f.1.toArray⟩).run Tryz.prog w = .ok (.string ⟨T1.toArray⟩) w := add_rule _ _ _ h1 (by omega)
          have a2 : ∀ w, (Op.stringOp .add ⟨T1.toArray⟩ ⟨#[58, 32]⟩).run Tryz.prog w = .ok (.string ⟨T2.toArray⟩) w := add_rule _ _ _ h2 (by omega)
          have a3 : ∀ w, (Op.stringOp .add ⟨T2.toArray⟩ ⟨f.2.toArray⟩).run Tryz.prog w = .ok (.string ⟨T3.toArray⟩) w := add_rule _ _ _ h3 (by omega)
          have a4 : ∀ w, (Op.stringOp .add ⟨T3.toArray⟩ ⟨#[13, 10]⟩).run Tryz.prog w = .ok (.string ⟨T4.toArray⟩) w := add_rule _ _ _ h4 (by omega)
          clear h1 h2 h3 h4 l1 l2 l3 l4 hst9 hle hf hd hnn hsum HSUM HS
          go_wp2
          go_quiet (fail)
          go_wp2
          go_quiet (fail)
          go_wp2
          go_roundw
          case rel => exact ⟨k + 1, _, T4, by omega, by go_num, rfl, by rw [← HNN.out], HT, by simp [World.drewN]; rfl⟩
          case measure => simp [intOf]; omega
        · have HSH := Lib.hid (show S = S0 ++ rfsL r.f by rw [HS.out, List.take_of_length_le (by omega)])
          obtain rfl : k = r.f.length := by omega
          have hsum := HSUM.out
          have hSl : S.length = S0.length + (rfsL r.f).length := by rw [HSH.out, List.length_append]
          have HBD : Hid (S.length + (codeR r minor).length + (lastR minor close).length + 2 + (bodyR r head minor).length ≤ 65536) := Lib.hid (by omega)
          have HBA : Hid (allR r head minor close = S ++ codeR r minor ++ lastR minor close ++ crlf ++ bodyR r head minor) := Lib.hid (by rw [HSH.out, ← HS0.out]; rfl)
          have hC := Lib.hid (show chunkedR r minor = (decide (0 < r.p.length) && decide (0 < minor)) from rfl)
          have hnb := fun w => ref_NoBody r.st w
          clear hsum hSl HSUM HSH HS HS0 HLN
          go_upto_region 12 with (fail)
          go_cut [13] (fun v13 wx => v13 = .bool (chunkedR r minor) ∧ Wf.drewN q = wx)
          case first =>
            by_cases hp : 0 < r.p.length
            · have hp' : (0:Int) < (r.p.length : Int) := by omega
              by_cases hm : 0 < minor
              · have hC2 := Lib.hid (show chunkedR r minor = true by rw [hC.out, decide_eq_true hp, decide_eq_true hm, Bool.true_and])
                clear hC hp hnb
                go_wp2_with fail
                go_meet
                case rel => exact ⟨by rw [hC2.out], rfl⟩
              · have hC2 := Lib.hid (show chunkedR r minor = false by rw [hC.out, decide_eq_false hm, Bool.and_false])
                clear hC hp hnb
                go_wp2_with fail
                go_meet
                case rel => exact ⟨by rw [hC2.out], rfl⟩
            · have hp' : ¬ (0:Int) < (r.p.length : Int) := by omega
              have hC2 := Lib.hid (show chunkedR r minor = false by rw [hC.out, decide_eq_false hp, Bool.false_and])
              clear hC hp hnb
              go_wp2_with fail
              go_meet
              case rel => exact ⟨by rw [hC2.out], rfl⟩
          case rest =>
            obtain ⟨rfl, hwx⟩ := hcut
            have RX := (RW.belowW (below_drewN' (Below.refl _ _) q))
            have LX := stepW LW (below_drewN' (Below.refl Wf.heap.size Wf) q)
            rw [hwx] at RX LX
            clear hC hwx hrf x0 x1 x2 x3
            obtain ⟨x0, x1, x2, x3, -⟩ := RX.blk.c4
            go_upto_block 2 with (fail)
            go_cut [10, 13] (fun v10 v13 wx => v10 = sv (S ++ codeR r minor) ∧ v13 = .bool (chunkedR r minor) ∧ Below V.heap.size V wx)
            case first =>
              have hbd := HBD.out
              cases hn : noBody r.st
              · cases hch : chunkedR r minor
                · have hcr : clS ++ digs 10 r.b.length ++ crlf = codeR r minor := by rw [codeR, hn, hch]; rfl
                  have hD := fun w' => ref_Dec (r.b.length : Int) w' (by omega)
                  simp only [Int.toNat_natCast] at hD
                  obtain ⟨T1, h1⟩ : ∃ T1, S ++ [67, 111, 110, 116, 101, 110, 116, 45, 76, 101, 110, 103, 116, 104, 58, 32] = T1 := ⟨_, rfl⟩
                  obtain ⟨T2, h2⟩ : ∃ T2, T1 ++ digs 10 r.b.length = T2 := ⟨_, rfl⟩
                  have h3 : T2 ++ [13, 10] = S ++ codeR r minor := by rw [← h2, ← h1, ← hcr]; simp [clS, clN, csB, crlf]
                  have l3 : (S ++ codeR r minor).length ≤ 65536 := by rw [List.length_append]; omega
                  have l2 : T2.length ≤ (S ++ codeR r minor).length := by rw [← h3, List.length_append]; omega
                  have l1 : T1.length ≤ T2.length := by rw [← h2, List.length_append]; omega
                  have a1 : ∀ w, (Op.stringOp .add ⟨S.toArray⟩ ⟨#[67, 111, 110, 116, 101, 110, 116, 45, 76, 101, 110, 103, 116, 104, 58, 32]⟩).run Tryz.prog w = .ok (.string ⟨T1.toArray⟩) w := add_rule _ _ _ h1 (by omega)
                  have a2 : ∀ w, (Op.stringOp .add ⟨T1.toArray⟩ ⟨(digs 10 r.b.length).toArray⟩).run Tryz.prog w = .ok (.string ⟨T2.toArray⟩) w := add_rule _ _ _ h2 (by omega)
                  generalize S ++ codeR r minor = T3 at *
                  have a3 : ∀ w, (Op.stringOp .add ⟨T2.toArray⟩ ⟨#[13, 10]⟩).run Tryz.prog w = .ok (.string ⟨T3.toArray⟩) w := add_rule _ _ _ h3 (by omega)
                  rw [hn] at hnb
                  clear hn hcr h1 h2 h3 l1 l2 l3 hbd HBD
                  go_wp2_with (first
                    | (go_at_call 30
                       refine (hnb _).mono ?_
                       rintro e w1 ⟨rfl, rfl⟩)
                    | (go_at_call 28
                       refine (hD _).mono ?_
                       rintro e w2 ⟨rfl, L2⟩))
                  go_meet
                  case rel => exact ⟨rfl, by rw [hch], stepW LX L2⟩
                · have hcr : teS ++ crlf = codeR r minor := by rw [codeR, hn, hch]; rfl
                  have h3 : S ++ [84, 114, 97, 110, 115, 102, 101, 114, 45, 69, 110, 99, 111, 100, 105, 110, 103, 58, 32, 99, 104, 117, 110, 107, 101, 100, 13, 10] = S ++ codeR r minor := by rw [← hcr]; simp [teS, teN, chB, csB, chunkedB, crlf]
                  have l3 : (S ++ codeR r minor).length ≤ 65536 := by rw [List.length_append]; omega
                  generalize S ++ codeR r minor = T3 at *
                  have a3 : ∀ w, (Op.stringOp .add ⟨S.toArray⟩ ⟨#[84, 114, 97, 110, 115, 102, 101, 114, 45, 69, 110, 99, 111, 100, 105, 110, 103, 58, 32, 99, 104, 117, 110, 107, 101, 100, 13, 10]⟩).run Tryz.prog w = .ok (.string ⟨T3.toArray⟩) w := add_rule _ _ _ h3 (by omega)
                  rw [hn] at hnb
                  clear hn hcr h3 l3 hbd HBD
                  go_wp2_with (first
                    | (go_at_call 30
                       refine (hnb _).mono ?_
                       rintro e w1 ⟨rfl, rfl⟩))
                  go_meet
                  case rel => exact ⟨rfl, by rw [hch], LX⟩
              · have hcr : S = S ++ codeR r minor := by rw [codeR, hn]; simp
                have HCR := Lib.hid hcr
                rw [hn] at hnb
                clear hn hcr hbd HBD
                go_wp2_with (first
                  | (go_at_call 30
                     refine (hnb _).mono ?_
                     rintro e w1 ⟨rfl, rfl⟩))
                go_meet
                case rel => exact ⟨by rw [← HCR.out], rfl, LX⟩
            case rest =>
              obtain ⟨rfl, rfl, LY⟩ := hcut
              rename World => W2
              have hbd := HBD.out
              obtain ⟨S2, hS2⟩ : ∃ S2, S2 = S ++ codeR r minor := ⟨_, rfl⟩
              have hl2 : S2.length = S.length + (codeR r minor).length := by rw [hS2, List.length_append]
              rw [← hS2] at HBA
              rw [← hS2]
              have HB2 : Hid (S2.length + (lastR minor close).length + 2 + (bodyR r head minor).length ≤ 65536) := Lib.hid (by omega)
              clear hS2 hl2 hbd HBD hnb RX LX x0 x1 x2 x3
              go_upto_block 3 with (fail)
              go_cut [10] (fun v10 wx => v10 = sv (S2 ++ lastR minor close) ∧ W2 = wx)
              case first =>
                have hbd := HB2.out
                cases close
                · by_cases hm : minor < 1
                  · have hlr : ckS ++ crlf = lastR minor false := by rw [lastR, if_neg (by decide), if_pos hm]
                    have h3 : S2 ++ [67, 111, 110, 110, 101, 99, 116, 105, 111, 110, 58, 32, 107, 101, 101, 112, 45, 97, 108, 105, 118, 101, 13, 10] = S2 ++ lastR minor false := by rw [← hlr]; simp [ckS, coN, csB, keepB, crlf]
                    have l3 : (S2 ++ lastR minor false).length ≤ 65536 := by rw [List.length_append]; omega
                    generalize S2 ++ lastR minor false = T3 at *
                    have a3 : ∀ w, (Op.stringOp .add ⟨S2.toArray⟩ ⟨#[67, 111, 110, 110, 101, 99, 116, 105, 111, 110, 58, 32, 107, 101, 101, 112, 45, 97, 108, 105, 118, 101, 13, 10]⟩).run Tryz.prog w = .ok (.string ⟨T3.toArray⟩) w := add_rule _ _ _ h3 (by omega)
                    clear hlr h3 l3 hbd HB2
                    go_wp2_with fail
                    go_meet
                    case rel => exact ⟨rfl, rfl⟩
                  · have hcr : S2 = S2 ++ lastR minor false := by rw [lastR, if_neg (by decide), if_neg hm, List.append_nil]
                    have HCR := Lib.hid hcr
                    clear hcr hbd HB2
                    go_wp2_with fail
                    go_meet
                    case rel => exact ⟨by rw [← HCR.out], rfl⟩
                · have hlr : ccS ++ crlf = lastR minor true := by rw [lastR, if_pos rfl]
                  have h3 : S2 ++ [67, 111, 110, 110, 101, 99, 116, 105, 111, 110, 58, 32, 99, 108, 111, 115, 101, 13, 10] = S2 ++ lastR minor true := by rw [← hlr]; simp [ccS, coN, csB, closeB, crlf]
                  have l3 : (S2 ++ lastR minor true).length ≤ 65536 := by rw [List.length_append]; omega
                  generalize S2 ++ lastR minor true = T3 at *
                  have a3 : ∀ w, (Op.stringOp .add ⟨S2.toArray⟩ ⟨#[67, 111, 110, 110, 101, 99, 116, 105, 111, 110, 58, 32, 99, 108, 111, 115, 101, 13, 10]⟩).run Tryz.prog w = .ok (.string ⟨T3.toArray⟩) w := add_rule _ _ _ h3 (by omega)
                  clear hlr h3 l3 hbd HB2
                  go_wp2_with fail
                  go_meet
                  case rel => exact ⟨rfl, rfl⟩
              case rest =>
                obtain ⟨rfl, rfl⟩ := hcut
                have hbd := HB2.out
                obtain ⟨P, hP⟩ : ∃ P, P = S2 ++ lastR minor close ++ crlf := ⟨_, rfl⟩
                have hl2 : P.length = S2.length + (lastR minor close).length + 2 := by rw [hP, List.length_append, List.length_append]; rfl
                rw [← hP] at HBA
                have HBP : Hid (P.length + (bodyR r head minor).length ≤ 65536) := Lib.hid (by omega)
                have a1 : ∀ w, (Op.stringOp .add ⟨(S2 ++ lastR minor close).toArray⟩ ⟨#[13, 10]⟩).run Tryz.prog w = .ok (.string ⟨P.toArray⟩) w := add_rule _ _ _ (by rw [hP]; rfl) (by omega)
                obtain ⟨C, F, hr, ho, hb⟩ := bytes_ruleR (P := Tryz.prog) 9 22 5 ⟨P.toArray⟩ Tryz.underlying9 Tryz.underlying22 Tryz.underlying5 (by show P.length ≤ _; unfold maxLen; omega)
                have hr' : ∀ w, (convert 9 22 (.string ⟨P.toArray⟩)).run Tryz.prog w = .ok (.slice (some ⟨w.heap.size, 0, none⟩) P.length (C w)) (F w) := hr
                have ho' : ∀ (w : World) (base : Nat), base ≤ w.heap.size → OB (F w) base (.slice (some ⟨w.heap.size, 0, none⟩) P.length (C w)) P := fun w base h => ho w base h
                clear hr ho hP hl2 hbd HB2
                generalize S2 ++ lastR minor close = S3 at *
                go_upto_block 4 with (fail)
                have ho0 := ho' W2 V.heap.size LY.size
                have LG := stepW LY (hb W2)
                generalize F W2 = G at *
                generalize (some ⟨W2.heap.size, 0, none⟩ : Option Addr) = A0 at *
                generalize C W2 = c0 at *
                have RG := RV.belowW LG
                clear hr' ho' hb a1 LY
                go_cut [13, 14] (fun v13 v14 wx => OB wx V.heap.size v14 (allR r head minor close) ∧ Below V.heap.size V wx)
                case first =>
                  have hPl := HBP.out
                  have hgs := LG.size
                  cases head
                  · rw [HBR.out] at HBA hPl
                    obtain ⟨x0, x1, x2, x3, -⟩ := RG.blk.c4
                    cases hch : chunkedR r minor
                    · rw [hch, if_neg (by decide)] at HBA hPl
                      obtain ⟨Q, hQ⟩ : ∃ Q, P ++ r.b = Q := ⟨_, rfl⟩
                      have HQ := Lib.hid hQ
                      rw [hQ] at HBA
                      have hRb : Rd G G.heap.size 1 Ab r.b.length (r.b.map bv) := RG.row.rb
                      clear hch HBR HBP hQ
                      go_wp2_with (first
                        | (at_builtin
                           refine wp_appRd rfl (.tmp 113) (.tmp 115) rfl V.heap.size (.slice A0 P.length c0) P rfl ho0 (Below.refl _ _) Ab r.b.length cb _ rfl r.b hRb (by omega) hgs ?_
                           intro v4 w4 ho4 hx4
                           rw [HQ.out] at ho4))
                      go_meet
                      case rel => exact ⟨by rw [HBA.out]; exact ho4, LG.trans (hx4.below ho0 (Nat.le_refl _) hgs)⟩
                    · rw [hch, if_pos rfl] at HBA hPl
                      have hcl : (cutP r.b 0 r.p).length ≤ 1000000 := by rw [(cutP_len r.b r.p 0).1]; exact hzp
                      obtain ⟨En, hEn⟩ : ∃ En, En = encL (cutP r.b 0 r.p) := ⟨_, rfl⟩
                      have HEN := Lib.hid hEn
                      rw [← hEn] at HBA hPl
                      obtain ⟨Q, hQ⟩ : ∃ Q, P ++ En = Q := ⟨_, rfl⟩
                      have HQ := Lib.hid hQ
                      rw [hQ] at HBA
                      have hbV : Rd G G.heap.size 1 Ab r.b.length (r.b.map bv) := RG.row.rb
                      have hpV : Rd G G.heap.size 1 Ap r.p.length (r.p.map fun i => Value.int .i64 i) := RG.row.rp
                      have H0 : CtRel G r.b r.p 0 0 (.slice none 0 0) [] G := ⟨Nat.zero_le _, Nat.zero_le _, HPF.out, rfl, rfl, OPs.nil _ _, Below.refl _ _⟩
                      clear hch HBR HBP hQ hEn
                      go_wp2_with fail
                      go_loopw [15, 16, 17] (fun v15 v16 v17 wr => ∃ (a k : Nat) (v : Value) (ps : List Bs), v = v15 ∧ v16 = .int .i64 a ∧ v17 = .int .i64 k ∧ CtRel G r.b r.p a k v ps wr) (fun _ _ v17 _ => r.p.length - (intOf v17).toNat)
                      case atStart => exact ⟨0, 0, _, [], rfl, rfl, rfl, H0⟩
                      case round =>
                        obtain ⟨a, k, v, ps, hv, rfl, rfl, H⟩ := hrel
                        subst hv
                        have hk := H.kz
                        have han := H.an
                        have hpk := H.pk
                        clear x0 x1 x2 x3
                        obtain ⟨q0, q1, q2, q3, -⟩ := (RG.belowW H.below).blk.c4
                        by_cases hlt : k < r.p.length
                        · obtain ⟨z, hz, haz, hzl, hpl, hN⟩ := H.next hlt
                          obtain ⟨hr, hne⟩ := H.rd hbV (z - a) (by omega)
                          obtain ⟨b1, o1, rfl, hb1, hy⟩ := hpV.2 (by omega)
                          have yG := hy k (.int .i64 (z : Int)) (map_get _ _ _ _ hz)
                          have y1 := (H.below.cell (p := ⟨b1, o1 + k, none⟩) hb1).trans yG
                          obtain ⟨b2, o2, rfl, hb2, hy2⟩ := hbV.2 (by omega)
                          rw [Option.map_some, add_lit'] at hr hne
                          obtain ⟨Pp, hPp⟩ : ∃ Pp, Pp = (r.b.drop a).take (z - a) := ⟨_, rfl⟩
                          rw [← hPp] at hpl hr hN
                          rw [← hpl] at hr hne
                          have hof : OffB v Pp.length (some ⟨b2, o2 + a, none⟩) := hne
                          have HPL := Lib.hid hpl
                          have hsz := H.below.size
                          have hzc : z ≤ cb := by omega
                          have hown := H.own.belowW (Below.refl wr.heap.size wr).drew
                          have y2 : (wr.alloc (.cells #[.slice (some ⟨b2, o2 + a, none⟩) (z - a) (cb - a)] 22)).heap.size = wr.heap.size + 1 := by simp
                          obtain ⟨Qs, hQs⟩ : ∃ Qs, ps ++ [Pp] = Qs := ⟨_, rfl⟩
                          have HQs := Lib.hid hQs
                          rw [hQs] at hN
                          have f1 : a ≤ z := by omega
                          have f2 : ¬ cb = a := by omega
                          clear y2 hy hy2 hz hpl hne hPp H0 hQs
                          go_wp2_with fail
                          go_region_law (first
                            | (refine step_appPs rfl (.tmp 128) (.tmp 138) rfl G.heap.size v ps rfl hown wr.heap.size rfl (some ⟨b2, o2 + a, none⟩) (z - a) (cb - a) Pp HPL.out rfl hr hof (by omega) H.below.size ?_
                               intro v' w' ho' hx'
                               rw [HQs.out] at ho'
                               obtain ⟨A', c', hv', -⟩ := ho'.form
                               subst hv'))
                          all_goals
                            simp only [List.getElem_toArray, List.getElem_cons_succ, List.getElem_cons_zero]
                            have CT := hN _ _ ho' hx'.undrew
                            have y3 := (CT.below.cell (p := ⟨b1, o1 + k, none⟩) hb1).trans yG
                            obtain ⟨r0, r1, r2, r3, -⟩ := (RG.belowW CT.below).blk.c4
                            clear hN yG y1 q0 q1 q2 q3
                            go_wp2_with fail
                            go_roundw
                            case rel => exact ⟨z, k + 1, _, _, rfl, rfl, by go_num, CT⟩
                            case measure => simp [intOf]; omega
                        · have hke : k = r.p.length := by omega
                          have heq := H.eq
                          rw [List.drop_of_length_le (l := r.p) (i := k) (by omega), cutP, List.append_nil] at heq
                          obtain ⟨A9, c9, rfl, hS⟩ := H.own.form
                          have LH := LG.trans (H.below.mono hgs)
                          have hoH := ho0.belowW H.below
                          have hsz := H.below.size
                          rw [heq] at HCF hcl HEN
                          clear hke heq H0 hbV hpV hpk
                          go_wp2_with fail
                          refine (ref14_Encode A9 ps.length c9 _ ps _ hS (Nat.le_refl _) HCF.out hcl).mono ?_
                          rintro e w6 ⟨v6, rfl, ho6, L6⟩
                          rw [← HEN.out] at ho6
                          obtain ⟨A6, c6, hv6, -, -, hr6⟩ := ho6.form
                          subst hv6
                          have hs6 := L6.size
                          have hoJ := hoH.belowW L6
                          have LJ := stepW LH L6
                          go_wp2_with (first
                            | (at_builtin
                               refine wp_appRd rfl (.tmp 145) (.tmp 147) rfl V.heap.size (.slice A0 P.length c0) P rfl hoJ (Below.refl _ _) A6 En.length c6 _ rfl En hr6 (by omega) (by omega) ?_
                               intro v4 w4 ho4 hx4
                               rw [HQ.out] at ho4))
                          go_meet
                          case rel => exact ⟨by rw [HBA.out]; exact ho4, LJ.trans (hx4.below hoJ (Nat.le_refl _) (by omega))⟩
                  · have hen : bodyR r true minor = [] := by rw [bodyR]; rfl
                    rw [hen, List.append_nil] at HBA
                    clear hen HBR HBP
                    go_wp2_with fail
                    go_meet
                    case rel => exact ⟨by rw [HBA.out]; exact ho0, LG⟩
                case rest =>
                  obtain ⟨ho5, L5⟩ := hcut
                  have hln : (allR r head minor close).length ≤ 65536 := by rw [HBA.out, List.length_append]; exact HBP.out
                  obtain ⟨Q, hQ⟩ : ∃ Q, Q = allR r head minor close := ⟨_, rfl⟩
                  rw [← hQ] at ho5 hln HE
                  obtain ⟨A9, c9, hv9, hc9, -, -⟩ := ho5.form
                  subst hv9
                  have hl2 : decide ((65536 : Int) < (Q.length : Int)) = false := decide_eq_false (by omega)
                  have hgs := LV.size
                  clear HBA HBP HBR hQ hln ho0
                  go_wp2
                  go_ret2
                  exact ⟨A9, c9, by rw [HE.out]; rfl, by rw [HE.out]; exact hc9, by rw [HE.out]; exact Own.lower ho5 hgs, LV.trans (L5.mono hgs)⟩
end Go.Proofs.YtmjekdnfkgalbaaGreatDoor
