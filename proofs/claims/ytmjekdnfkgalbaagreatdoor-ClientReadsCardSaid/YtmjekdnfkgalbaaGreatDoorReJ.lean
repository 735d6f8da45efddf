/- reply.Encode. -/
import Derived.Test.YtmjekdnfkgalbaaGreatDoorReF
import Derived.Test.YtmjekdnfkgalbaaGreatDoorEncK
import Derived.Test.YtmjekdnfkgalbaaGreatDoorRhA
import Derived.Deep.CutBlock
namespace Go.Proofs.YtmjekdnfkgalbaaGreatDoor
open Go.RowKit
set_option maxRecDepth 100000
set_option maxHeartbeats 4000000

/-- What is laid so far, in a world behind V. -/
def EnS (V : World) (gb : Nat) (l : Bs) (w' : World) : Prop := (∃ v, BA w' gb V.heap.size v l) ∧ Below V.heap.size V w'
theorem EnS.belowW {V w w' : World} {gb : Nat} {l : Bs} (h : EnS V gb l w) (hb : Below w.heap.size w w') : EnS V gb l w' := by
  obtain ⟨⟨v, h1⟩, h2⟩ := h
  exact ⟨⟨v, h1.belowW hb⟩, stepW h2 hb⟩
theorem EnS.line {V w : World} {gb : Nat} {l : Bs} (h : EnS V gb l w) (xs : List ByteArray) (n c : Nat) (A : Option Addr) (hA : Rd w w.heap.size 1 A n (xs.map Value.string)) (hn : n ≤ 1000000) (hc : n ≤ c) (hl : l.length ≤ 100000000) (hm : (xs.map (·.data.toList)).flatten.length ≤ 100000000) :
    Calls Tryz.prog 43 #[.slice A n c, .pointer (some ⟨gb, 0, none⟩)] w fun e w' => e = .returned (.tuple #[]) ∧ EnS V gb (l ++ (xs.map (·.data.toList)).flatten ++ crlf) w' := by
  obtain ⟨⟨v, h1⟩, h2⟩ := h
  refine (rep_line gb V.heap.size n c w.heap.size A v l xs w h1 hA (Nat.le_refl _) hn hc h2.size hl hm).mono ?_
  rintro e w' ⟨rfl, h3, h4⟩
  exact ⟨rfl, h3, h2.trans h4⟩
theorem allocW_size (w : World) (o : Obj) : w.heap.size + 1 ≤ (w.alloc o).heap.size := by rw [World.alloc, Array.size_push]; exact Nat.le_refl _
theorem EnS.lit {V w : World} {gb : Nat} {l : Bs} (h : EnS V gb l w) (xs : List ByteArray) (n : Nat) (m : Bs) (hn : xs.length = n) (hn2 : n ≤ 1000) (hm : l ++ (xs.map (·.data.toList)).flatten ++ crlf = m) (hl : m.length ≤ 100000000) :
    Calls Tryz.prog 43 #[.slice (some ⟨w.heap.size, 0, none⟩) n n, .pointer (some ⟨gb, 0, none⟩)] (w.alloc (.cells (xs.map Value.string).toArray 9)) fun e w' => e = .returned (.tuple #[]) ∧ EnS V gb m w' := by
  subst hm
  simp only [List.length_append] at hl
  refine (h.belowW (allocW (Below.refl _ _) _)).line xs n n _ ((Rd.new w _ rfl (xs.map Value.string) 9 n 1 (by simp [hn])).more (allocW_size w _)) (by omega) (Nat.le_refl _) (by omega) (by omega)
theorem rfs_step {l : List Fd} {k : Nat} {f : Fd} (h : l[k]? = some f) : rfsL (l.take (k + 1)) = rfsL (l.take k) ++ rfL f := by
  rw [List.take_add_one, h, Option.toList_some, rfsL, rfsL, List.flatMap_append]
  simp
theorem rfs_le (l : List Fd) (k : Nat) : (rfsL (l.take k)).length ≤ (rfsL l).length := by
  have : rfsL l = rfsL (l.take k) ++ rfsL (l.drop k) := by rw [rfsL, rfsL, rfsL, ← List.flatMap_append, List.take_append_drop]
  rw [this, List.length_append]
  omega
theorem all_le (r : Rs) (head : Bool) (minor : Int) (close : Bool) : (allR r head minor close).length = (startR r.st).length + (rfsL r.f).length + (codeR r minor).length + (lastR minor close).length + 2 + (bodyR r head minor).length := by
  rw [allR, headR]
  simp only [List.length_append]
  rfl
theorem EnS.litG {V w : World} {gb : Nat} {l : Bs} (h : EnS V gb l w) (g : Nat) (hg : w.heap.size = g) (xs : List ByteArray) (n : Nat) (m : Bs) (hn : xs.length = n) (hn2 : n ≤ 1000) (hm : l ++ (xs.map (·.data.toList)).flatten ++ crlf = m) (hl : m.length ≤ 100000000) :
    Calls Tryz.prog 43 #[.slice (some ⟨g, 0, none⟩) n n, .pointer (some ⟨gb, 0, none⟩)] (w.alloc (.cells (xs.map Value.string).toArray 9)) fun e w' => e = .returned (.tuple #[]) ∧ EnS V gb m w' := by
  subst hg
  exact h.lit xs n m hn hn2 hm hl
theorem Own.lower {w : World} {base base' e size n : Nat} {v : Value} {xs : List Value} (h : Own w base e size v n xs) (hb : base' ≤ base) : Own w base' e size v n xs := by
  obtain ⟨h1, h2⟩ := h
  refine ⟨h1, ?_⟩
  rcases h2 with h2 | ⟨a1, a2, a3, a4, a5, a6, a7⟩
  · exact .inl h2
  · exact .inr ⟨a1, a2, a3, a4, a5, Nat.le_trans hb a6, a7⟩
/-- What Encode hands back. -/
def EncPost (w : World) (r : Bs × Int) (e : Ending) (w' : World) : Prop :=
  ∃ A c, e = .returned (.tuple #[.slice A r.1.length c, .int .i64 r.2]) ∧ r.1.length ≤ c ∧ Own w' w.heap.size 5 1 (.slice A r.1.length c) r.1.length (r.1.map bv) ∧ Below w.heap.size w w'
theorem rep_Encode (x : RsP) (head : Bool) (minor : Int) (close : Bool) (w : World) (hR : RsR w x) (hZ : RsZ x) (htz : TZ w) (ht : Tab10 w) (hL : isOneL x.r = true → Light x.r) :
    Calls Tryz.prog 21 #[rsW x, .bool head, .int .i64 minor, .bool close] w (EncPost w (encR x.r head minor close)) := by
  have hI := fun w' (h : RsR w' x) => rep_isOne x w' h hZ
  obtain ⟨r, Af, cf, Ab, cb, Ap, cp⟩ := x
  have hmf : ∀ (fn : Fn) (first cap : Array Value) (w : World), (Instr.makeFunc fn first cap).run Tryz.prog w = .ok (.func fn first cap) w := fun _ _ _ _ => rfl
  have hzf : r.f.length ≤ 1000000 := hZ.f
  have hzb : r.b.length ≤ 1000000 := hZ.b
  have hzp : r.p.length ≤ 1000000 := hZ.p
  have hzs : FdSz r.f := hZ.fs
  have hL' : isOneL r = true → Light r := hL
  clear hL
  show Calls Tryz.prog 21 #[.agg #[.int .i64 r.st, .slice Af r.f.length cf, .slice Ab r.b.length cb, .slice Ap r.p.length cp], .bool head, .int .i64 minor, .bool close] w (EncPost w (encR r head minor close))
  go_enter Tryz.func21, Tryz.ntmps21
  go_upto_region 1 with (fail)
  obtain ⟨U, hU⟩ : ∃ U, U = w.alloc (.cells #[.int .i64 r.st, .slice Af r.f.length cf, .slice Ab r.b.length cb, .slice Ap r.p.length cp] 38) := ⟨_, rfl⟩
  rw [← hU]
  have LU : Below w.heap.size w U := by rw [hU]; exact allocW (Below.refl _ _) _
  have BU : Blk U w.heap.size 38 #[.int .i64 r.st, .slice Af r.f.length cf, .slice Ab r.b.length cb, .slice Ap r.p.length cp] := by rw [hU]; exact Blk.new' _ _ rfl _ _
  clear hU
  have RU : RB U w.heap.size ⟨r, Af, cf, Ab, cb, Ap, cp⟩ := ⟨BU, hR.belowW LU⟩
  obtain ⟨x0, x1, x2, x3, z0, z1, z2, z3⟩ := BU.c4
  go_wp2_with fail
  refine (hI U RU.row).mono ?_
  rintro e V ⟨rfl, L1⟩
  have LV := stepW LU L1
  have RV := RU.belowW L1
  have htV := tab_below ht LV (Nat.le_refl _)
  clear x0 x1 x2 x3 z0 z1 z2 z3 BU RU hI LU L1 hR
  cases hone : isOneL r
  · have HE := Lib.hid (show encR r head minor close = ([], 1) by rw [encR, hone]; rfl)
    clear hone
    go_wp2_with fail
    go_ret2
    exact ⟨none, 0, by rw [HE.out]; rfl, by rw [HE.out]; exact Nat.le_refl _, by rw [HE.out]; exact Own.nil _ _ _ _, LV⟩
  · have hLt := hL' hone
    have HLN := Lib.hid (all_short r head minor close hLt hone)
    have HCF := Lib.hid (cut_flat r hLt hone)
    have HPF := Lib.hid (show (prtF r.b.length 0 r.p).isSome = true by obtain ⟨-, -, -, -, last, h9, -⟩ := one_parts r hone; rw [h9]; rfl)
    have HE := Lib.hid (show encR r head minor close = (allR r head minor close, 0) by rw [encR, if_pos hone, if_neg (by have := HLN.out; omega)])
    obtain ⟨hst, -⟩ := one_parts r hone
    have htzV := htz.below LV (Nat.le_refl _)
    clear hone hL' hLt htz
    obtain ⟨x0, x1, x2, x3, z0, z1, z2, z3⟩ := RV.blk.c4
    go_upto_region 5 with (fail)
    obtain ⟨W, hW⟩ : ∃ W, W = V.alloc (.cells #[.slice none 0 0] 22) := ⟨_, rfl⟩
    rw [← hW]
    have E0 : EnS V V.heap.size [] W := by rw [hW]; exact ⟨⟨_, Blk.new' _ _ rfl _ _, OB.nil _ _, Nat.le_refl _, by simp [Value.ownBlock]⟩, allocW (Below.refl _ _) _⟩
    clear hW
    have HS : ∀ l w', EnS V V.heap.size l w' → RB w' w.heap.size ⟨r, Af, cf, Ab, cb, Ap, cp⟩ := fun l w' h => RV.belowW h.2
    have hD := fun w' (L : Below V.heap.size V w') => asc_Dec r.st w' (by omega) (by omega) (tab_below htV L (Nat.le_refl _))
    have hPh := fun w' => sta_Phrase r.st w'
    have hL0 : (startR r.st).length ≤ 1000 := Nat.le_trans (start_len r.st (by omega)) (by decide)
    have hJ : ∀ (w' : World) (h : EnS V V.heap.size [] w'), Calls Tryz.prog 43 #[.slice (some ⟨w'.heap.size, 0, none⟩) 4 4, .pointer (some ⟨V.heap.size, 0, none⟩)] (w'.alloc (.cells #[.string ⟨#[72, 84, 84, 80, 47, 49, 46, 49, 32]⟩, sv (digs 10 r.st.toNat), .string ⟨#[32]⟩, sv (phraseL r.st)] 9)) fun e w2 => e = .returned (.tuple #[]) ∧ EnS V V.heap.size (startR r.st) w2 := fun w' h =>
      h.lit [⟨#[72, 84, 84, 80, 47, 49, 46, 49, 32]⟩, ⟨(digs 10 r.st.toNat).toArray⟩, ⟨#[32]⟩, ⟨(phraseL r.st).toArray⟩] 4 (startR r.st) rfl (by decide) (by simp [startR, begB]) (by omega)
    have HC : ∀ l w', EnS V V.heap.size l w' → w'.cell? ⟨w.heap.size, 0, none⟩ = some (.int .i64 r.st) ∧ w'.frozen? ⟨w.heap.size, 0, none⟩ = false := by
      intro l w' h
      obtain ⟨h1, -, -, -, h2, -, -, -⟩ := (HS _ _ h).blk.c4
      exact ⟨h1, h2⟩
    have X0 := HC _ _ E0
    obtain ⟨y0, y1⟩ := X0
    go_region_held3 (fun w' => w'.cell? ⟨w.heap.size, 0, none⟩ = some (.int .i64 r.st) ∧ w'.frozen? ⟨w.heap.size, 0, none⟩ = false)
      (first | go_keep | with_reducible exact X4 | with_reducible exact X6 | with_reducible exact X5)
      (first
        | (go_at_call 45
           refine (hD _ (E0.2.drew)).mono ?_
           rintro e w4 ⟨rfl, L4⟩
           have E4 := (E0.belowW (Below.refl _ _).drew).belowW L4
           have X4 := HC _ _ E4
           have X5 := HC _ _ (E4.belowW (allocW (Below.refl _ _) (.cells #[.string ⟨#[72, 84, 84, 80, 47, 49, 46, 49, 32]⟩, sv (digs 10 r.st.toNat), .string ⟨#[32]⟩, sv (phraseL r.st)] 9))))
        | (go_at_call 46
           refine (hPh _).mono ?_
           rintro e w5 ⟨rfl, rfl⟩)
        | (go_at_call 43
           refine (hJ _ E4).mono ?_
           rintro e w6 ⟨rfl, E6⟩
           have X6 := HC _ _ E6))
    have hal := all_le r head minor close
    have E6' : EnS V V.heap.size (startR r.st ++ rfsL (r.f.take 0)) w6 := by rw [show startR r.st ++ rfsL (r.f.take 0) = startR r.st by simp [rfsL]]; exact E6
    obtain ⟨s0, s1, s2, s3, s4, s5, s6, s7⟩ := (HS _ _ E6).blk.c4
    have HAL := Lib.hid hal
    clear hal hD hPh hJ E4 X4 X5 X6 x0 x1 x2 x3 z0 z1 z2 z3 y0 y1 L4 HC E0
    go_wp2_with fail
    go_loopw [31] (fun i wr => ∃ k : Nat, k ≤ r.f.length ∧ i = .int .i64 k ∧ EnS V V.heap.size (startR r.st ++ rfsL (r.f.take k)) wr) (fun i _ => r.f.length - (intOf i).toNat)
    case atStart => exact ⟨0, Nat.zero_le _, rfl, E6'⟩
    case round =>
      obtain ⟨k, hk, rfl, E⟩ := hrel
      have Rk := HS _ _ E
      clear s0 s1 s2 s3 s4 s5 s6 s7 E6 E6'
      by_cases hlt : k < r.f.length
      · obtain ⟨f, hf, hd⟩ := drop_fd hlt
        obtain ⟨b, o, rfl, hbB, y0, y1⟩ := Rd.fd (show Rd wr wr.heap.size 2 Af r.f.length (fcells r.f) from Rk.row.rf) rfl k f hf
        have hst9 := rfs_step hf
        have hle := rfs_le r.f (k + 1)
        have hJ := (E.belowW (allocW (Below.refl _ _) (.cells #[sv f.1, sv f.2] 58))).litG (wr.heap.size + 1) (Array.size_push _) [⟨f.1.toArray⟩, ⟨#[58, 32]⟩, ⟨f.2.toArray⟩] 3 (startR r.st ++ rfsL (r.f.take (k + 1))) rfl (by decide) (by rw [hst9, rfL]; simp [csB]) (by have := HAL.out; have := HLN.out; rw [List.length_append]; omega)
        clear hf hd hst9 hle
        go_wp2_with fail
        refine hJ.mono ?_
        rintro e w7 ⟨rfl, E7⟩
        go_wp2_with fail
        go_roundw
        case rel => exact ⟨k + 1, by omega, by go_num, E7⟩
        case measure => simp [intOf]; omega
      · rw [List.take_of_length_le (by omega)] at E
        obtain rfl : k = r.f.length := by omega
        obtain ⟨q0, q1, q2, q3, p0, p1, p2, p3⟩ := Rk.blk.c4
        obtain ⟨H, hH⟩ : ∃ H, H = startR r.st ++ rfsL r.f := ⟨_, rfl⟩
        rw [← hH] at E
        have HH := Lib.hid hH
        clear hH
        clear q0 q1 q2 q3 p0 p1 p2 p3 Rk hst hL0 hzs hzf
        have hC := Lib.hid (show chunkedR r minor = (decide (0 < r.p.length) && decide (0 < minor)) from rfl)
        have hnb := fun w => sta_NoBody r.st w
        obtain ⟨q0, q1, q2, q3, p0, p1, p2, p3⟩ := (HS _ _ E).blk.c4
        go_upto_region 11 with (fail)
        go_cut [14] (fun v14 wx => v14 = .bool (chunkedR r minor) ∧ wr = wx)
        case first =>
          by_cases hp : 0 < r.p.length
          · have hp' : (0:Int) < (r.p.length : Int) := by omega
            by_cases hm : 0 < minor
            · have hC2 := Lib.hid (show chunkedR r minor = true by rw [hC.out, decide_eq_true hp, decide_eq_true hm, Bool.true_and])
              clear hC hp hnb
              go_wp2_with fail
              go_meet
              case rel => exact ⟨by rw [hC2.out], rfl⟩
            · have hC2 := Lib.hid (show chunkedR r minor = false by rw [hC.out, decide_eq_false hm, Bool.and_false])
              clear hC hp hnb
              go_wp2_with fail
              go_meet
              case rel => exact ⟨by rw [hC2.out], rfl⟩
          · have hp' : ¬ (0:Int) < (r.p.length : Int) := by omega
            have hC2 := Lib.hid (show chunkedR r minor = false by rw [hC.out, decide_eq_false hp, Bool.false_and])
            clear hC hp hnb
            go_wp2_with fail
            go_meet
            case rel => exact ⟨by rw [hC2.out], rfl⟩
        case rest =>
          obtain ⟨rfl, rfl⟩ := hcut
          clear hC
          have HBD : Hid ((H ++ codeR r minor).length ≤ 65536) := Lib.hid (by have := HAL.out; have := HLN.out; rw [HH.out, List.length_append, List.length_append]; omega)
          have HBL : Hid ((H ++ codeR r minor ++ lastR minor close).length ≤ 65536) := Lib.hid (by have := HAL.out; have := HLN.out; rw [HH.out, List.length_append, List.length_append, List.length_append]; omega)
          have HBA : Hid (allR r head minor close = H ++ codeR r minor ++ lastR minor close ++ crlf ++ bodyR r head minor) := Lib.hid (by rw [HH.out]; rfl)
          have HBC : Hid ((H ++ codeR r minor ++ lastR minor close ++ crlf).length + (bodyR r head minor).length ≤ 65536) := Lib.hid (by have := HLN.out; rw [HBA.out, List.length_append] at this; exact this)
          clear HAL HLN HH
          go_upto_block 2 with (fail)
          go_cut [14] (fun v14 wx => v14 = .bool (chunkedR r minor) ∧ EnS V V.heap.size (H ++ codeR r minor) wx)
          case first =>
            /-B2-/
            cases hn : noBody r.st
            · cases hch : chunkedR r minor
              · have hcr : clS ++ digs 10 r.b.length ++ crlf = codeR r minor := by rw [codeR, hn, hch]; rfl
                have hD2 := fun w' (L : Below V.heap.size V w') => asc_Dec (r.b.length : Int) w' (by omega) (by omega) (tab_below htV L (Nat.le_refl _))
                simp only [Int.toNat_natCast] at hD2
                have hJ2 := fun (w' : World) (h : EnS V V.heap.size H w') => h.lit [⟨#[67, 111, 110, 116, 101, 110, 116, 45, 76, 101, 110, 103, 116, 104]⟩, ⟨#[58, 32]⟩, ⟨(digs 10 r.b.length).toArray⟩] 3 (H ++ codeR r minor) rfl (by decide) (by rw [← hcr]; simp [clS, clN, csB]) (by have := HBD.out; omega)
                have hJ3 : ∀ (w' : World), EnS V V.heap.size H w' → Calls Tryz.prog 43 #[.slice (some ⟨w'.heap.size, 0, none⟩) 3 3, .pointer (some ⟨V.heap.size, 0, none⟩)] (w'.alloc (.cells #[.string ⟨#[67, 111, 110, 116, 101, 110, 116, 45, 76, 101, 110, 103, 116, 104]⟩, .string ⟨#[58, 32]⟩, sv (digs 10 r.b.length)] 9)) fun e w2 => e = .returned (.tuple #[]) ∧ EnS V V.heap.size (H ++ codeR r minor) w2 := hJ2
                rw [hn] at hnb
                clear hn hcr hJ2
                go_wp2_with (first
                  | (go_at_call 47
                     refine (hnb _).mono ?_
                     rintro e w1 ⟨rfl, rfl⟩)
                  | (go_at_call 45
                     refine (hD2 _ E.2).mono ?_
                     rintro e w2 ⟨rfl, L2⟩
                     have E2 := E.belowW L2)
                  | (go_at_call 43
                     refine (hJ3 _ E2).mono ?_
                     rintro e w3 ⟨rfl, E3⟩))
                go_meet
                case rel => exact ⟨by rw [hch], E3⟩
              · have hcr : teS ++ crlf = codeR r minor := by rw [codeR, hn, hch]; rfl
                have hJ2 := fun (w' : World) (h : EnS V V.heap.size H w') => h.lit [⟨#[84, 114, 97, 110, 115, 102, 101, 114, 45, 69, 110, 99, 111, 100, 105, 110, 103]⟩, ⟨#[58, 32, 99, 104, 117, 110, 107, 101, 100]⟩] 2 (H ++ codeR r minor) rfl (by decide) (by rw [← hcr]; simp [teS, teN, chB, csB, chunkedB]) (by have := HBD.out; omega)
                have hJ3 : ∀ (w' : World), EnS V V.heap.size H w' → Calls Tryz.prog 43 #[.slice (some ⟨w'.heap.size, 0, none⟩) 2 2, .pointer (some ⟨V.heap.size, 0, none⟩)] (w'.alloc (.cells #[.string ⟨#[84, 114, 97, 110, 115, 102, 101, 114, 45, 69, 110, 99, 111, 100, 105, 110, 103]⟩, .string ⟨#[58, 32, 99, 104, 117, 110, 107, 101, 100]⟩] 9)) fun e w2 => e = .returned (.tuple #[]) ∧ EnS V V.heap.size (H ++ codeR r minor) w2 := hJ2
                rw [hn] at hnb
                clear hn hcr hJ2
                go_wp2_with (first
                  | (go_at_call 47
                     refine (hnb _).mono ?_
                     rintro e w1 ⟨rfl, rfl⟩)
                  | (go_at_call 43
                     refine (hJ3 _ E).mono ?_
                     rintro e w3 ⟨rfl, E3⟩))
                go_meet
                case rel => exact ⟨by rw [hch], E3⟩
            · have hcr : codeR r minor = [] := by rw [codeR, hn]; rfl
              have E2 : EnS V V.heap.size (H ++ codeR r minor) wr := by rw [hcr, List.append_nil]; exact E
              clear hcr
              rw [hn] at hnb
              clear hn
              go_wp2_with (first
                | (go_at_call 47
                   refine (hnb _).mono ?_
                   rintro e w1 ⟨rfl, rfl⟩))
              go_meet
              case rel => exact ⟨rfl, E2⟩
            /-E2-/
          case rest =>
            obtain ⟨rfl, E2⟩ := hcut
            clear E q0 q1 q2 q3 p0 p1 p2 p3 HBD
            go_upto_block 3 with (fail)
            go_cut [14] (fun v14 wx => v14 = .bool (chunkedR r minor) ∧ EnS V V.heap.size (H ++ codeR r minor ++ lastR minor close) wx)
            case first =>
              /-B3-/
              cases close
              · by_cases hm : minor < 1
                · have hlr : ckS ++ crlf = lastR minor false := by rw [lastR, if_neg (by decide), if_pos hm]
                  have hJ2 := fun (w' : World) (h : EnS V V.heap.size (H ++ codeR r minor) w') => h.lit [⟨#[67, 111, 110, 110, 101, 99, 116, 105, 111, 110]⟩, ⟨#[58, 32, 107, 101, 101, 112, 45, 97, 108, 105, 118, 101]⟩] 2 (H ++ codeR r minor ++ lastR minor false) rfl (by decide) (by rw [← hlr]; simp [ckS, coN, csB, keepB]) (by have := HBL.out; omega)
                  have hJ3 : ∀ (w' : World), EnS V V.heap.size (H ++ codeR r minor) w' → Calls Tryz.prog 43 #[.slice (some ⟨w'.heap.size, 0, none⟩) 2 2, .pointer (some ⟨V.heap.size, 0, none⟩)] (w'.alloc (.cells #[.string ⟨#[67, 111, 110, 110, 101, 99, 116, 105, 111, 110]⟩, .string ⟨#[58, 32, 107, 101, 101, 112, 45, 97, 108, 105, 118, 101]⟩] 9)) fun e w2 => e = .returned (.tuple #[]) ∧ EnS V V.heap.size (H ++ codeR r minor ++ lastR minor false) w2 := hJ2
                  clear hlr hJ2
                  go_wp2_with (first
                    | (go_at_call 43
                       refine (hJ3 _ E2).mono ?_
                       rintro e w3 ⟨rfl, E3⟩))
                  go_meet
                  case rel => exact ⟨rfl, E3⟩
                · have E3 : EnS V V.heap.size (H ++ codeR r minor ++ lastR minor false) wc := by rw [lastR, if_neg (by decide), if_neg hm, List.append_nil]; exact E2
                  go_wp2_with fail
                  go_meet
                  case rel => exact ⟨rfl, E3⟩
              · have hlr : ccS ++ crlf = lastR minor true := by rw [lastR, if_pos rfl]
                have hJ2 := fun (w' : World) (h : EnS V V.heap.size (H ++ codeR r minor) w') => h.lit [⟨#[67, 111, 110, 110, 101, 99, 116, 105, 111, 110]⟩, ⟨#[58, 32, 99, 108, 111, 115, 101]⟩] 2 (H ++ codeR r minor ++ lastR minor true) rfl (by decide) (by rw [← hlr]; simp [ccS, coN, csB, closeB]) (by have := HBL.out; omega)
                have hJ3 : ∀ (w' : World), EnS V V.heap.size (H ++ codeR r minor) w' → Calls Tryz.prog 43 #[.slice (some ⟨w'.heap.size, 0, none⟩) 2 2, .pointer (some ⟨V.heap.size, 0, none⟩)] (w'.alloc (.cells #[.string ⟨#[67, 111, 110, 110, 101, 99, 116, 105, 111, 110]⟩, .string ⟨#[58, 32, 99, 108, 111, 115, 101]⟩] 9)) fun e w2 => e = .returned (.tuple #[]) ∧ EnS V V.heap.size (H ++ codeR r minor ++ lastR minor true) w2 := hJ2
                clear hlr hJ2
                go_wp2_with (first
                  | (go_at_call 43
                     refine (hJ3 _ E2).mono ?_
                     rintro e w3 ⟨rfl, E3⟩))
                go_meet
                case rel => exact ⟨rfl, E3⟩
              /-E3-/
            case rest =>
              obtain ⟨rfl, E3⟩ := hcut
              clear E2
              have hJ4 : ∀ (w' : World), EnS V V.heap.size (H ++ codeR r minor ++ lastR minor close) w' → Calls Tryz.prog 43 #[.slice none 0 0, .pointer (some ⟨V.heap.size, 0, none⟩)] w' fun e w2 => e = .returned (.tuple #[]) ∧ EnS V V.heap.size (H ++ codeR r minor ++ lastR minor close ++ crlf) w2 := by
                intro w' h
                have h9 := h.line [] 0 0 none (Rd.nil _ _ _ _) (by decide) (Nat.le_refl _) (by have := HBL.out; omega) (by decide)
                simp only [List.map_nil, List.flatten_nil, List.append_nil] at h9
                exact h9
              clear HBL
              go_upto_block 4 with (first
                | (go_at_call 43
                   refine (hJ4 _ E3).mono ?_
                   rintro e w3 ⟨rfl, E4⟩))
              clear hJ4 E3
              have HBA2 := HBA
              go_cut [14] (fun v14 wx => v14 = .bool (chunkedR r minor) ∧ EnS V V.heap.size (allR r head minor close) wx)
              case first =>
                have RW := (HS _ _ E4).row
                obtain ⟨q0, q1, q2, q3, p0, p1, p2, p3⟩ := (HS _ _ E4).blk.c4
                obtain ⟨P, hP⟩ : ∃ P, P = H ++ codeR r minor ++ lastR minor close ++ crlf := ⟨_, rfl⟩
                rw [← hP] at E4 HBA HBC
                cases head
                · cases hn : noBody r.st
                  · rw [hn] at hnb
                    obtain ⟨⟨v, hBA⟩, hBl⟩ := E4
                    obtain ⟨A9, c9, hv9, hc9, -, -⟩ := hBA.own.form
                    subst hv9
                    obtain ⟨t0, t1⟩ := hBA.blk.c1
                    have hgs := hBl.size
                    have hPl := HBC.out
                    cases hch : chunkedR r minor
                    · have hbd : bodyR r false minor = r.b := by rw [bodyR, hn, hch]; rfl
                      rw [hbd] at HBA hPl
                      have hRb : Rd w3 w3.heap.size 1 Ab r.b.length (r.b.map bv) := RW.rb
                      obtain ⟨Q, hQ⟩ : ∃ Q, P ++ r.b = Q := ⟨_, rfl⟩
                      have HQ := Lib.hid hQ
                      rw [hQ] at HBA
                      clear hn hbd HBC hP RW hQ
                      go_wp2_with (first
                        | (go_at_call 47
                           refine (hnb _).mono ?_
                           rintro e w1 ⟨rfl, rfl⟩)
                        | (at_builtin
                           refine wp_appRd rfl (.tmp 80) (.tmp 82) rfl V.heap.size (.slice A9 P.length c9) P rfl hBA.own (Below.refl _ _) Ab r.b.length cb _ rfl r.b hRb (by omega) hgs ?_
                           intro v4 w4' ho4 hx4
                           rw [HQ.out] at ho4
                           obtain ⟨A4, c4, hv4, -, -, -⟩ := ho4.form
                           subst hv4
                           obtain ⟨r0, r1⟩ := (hBA.blk.fr hx4.fr hBA.ne).c1))
                      go_meet
                      case rel => exact ⟨by rw [hch], ⟨_, by rw [HBA.out]; exact hBA.app hx4 ho4⟩, hBA.below hBl hgs hx4 _⟩
                    · have hbd : bodyR r false minor = encL (cutP r.b 0 r.p) := by rw [bodyR, hn, hch]; rfl
                      rw [hbd] at HBA hPl
                      have hPa := fun (W : World) (L : Below w3.heap.size w3 W) => rep_parts ⟨r, Af, cf, Ab, cb, Ap, cp⟩ W (RW.belowW L) hZ HPF.out
                      have hPa' : ∀ (W : World) (L : Below w3.heap.size w3 W), Calls Tryz.prog 49 #[.agg #[.int .i64 r.st, .slice Af r.f.length cf, .slice Ab r.b.length cb, .slice Ap r.p.length cp]] W (CutPost W (cutP r.b 0 r.p)) := hPa
                      have htz3 : TZ w3 := htzV.below hBl (Nat.le_refl _)
                      have hcl : (cutP r.b 0 r.p).length ≤ 1000000 := by rw [(cutP_len r.b r.p 0).1]; exact hzp
                      generalize cutP r.b 0 r.p = ps at *
                      obtain ⟨En, hEn⟩ : ∃ En, En = encL ps := ⟨_, rfl⟩
                      have hCh := fun (A n c B w h hB hT hn ht) => chk_Encode A n c B ps w h hB hT hn ht
                      rw [← hEn] at HBA hPl hCh
                      obtain ⟨Q, hQ⟩ : ∃ Q, P ++ En = Q := ⟨_, rfl⟩
                      have HQ := Lib.hid hQ
                      rw [hQ] at HBA
                      clear hn hbd HBC hP hPa RW hEn hQ
                      go_wp2_with (first
                        | (go_at_call 47
                           refine (hnb _).mono ?_
                           rintro e w1 ⟨rfl, rfl⟩))
                      go_region_law (first
                        | (go_simp
                           go_at_call 49
                           refine (hPa' _ (Below.refl _ _).drew).mono ?_
                           rintro e w5 ⟨A5, c5, rfl, hS5, L5⟩
                           have N5 := stepW (Below.refl w3.heap.size w3).drew L5
                           have B5 := hBA.belowW N5
                           obtain ⟨y0, y1⟩ := B5.blk.c1)
                        | (go_simp
                           go_at_call 48
                           refine (hCh A5 _ c5 _ _ hS5 (Nat.le_refl _) HCF.out hcl (htz3.below N5 (Nat.le_refl _))).mono ?_
                           rintro e w6' ⟨v6, rfl, ho6, L6⟩
                           have N6 := stepW N5 L6
                           have B6 := hBA.belowW N6
                           have hs6 := N6.size
                           obtain ⟨A6, c6, hv6, -, -, hr6⟩ := ho6.form
                           subst hv6
                           obtain ⟨y2, y3⟩ := B6.blk.c1)
                        | (refine step_appB rfl (.tmp 93) (.tmp 96) rfl V.heap.size (.slice A9 P.length c9) P rfl B6.own (Below.refl _ _) A6 En.length c6 _ rfl En hr6 (by omega) (by omega) ?_
                           intro v4 w4' ho4 hx4
                           rw [HQ.out] at ho4
                           obtain ⟨A4, c4, hv4, -, -, -⟩ := ho4.form
                           subst hv4
                           obtain ⟨r0, r1⟩ := (B6.blk.fr hx4.fr B6.ne).c1))
                      all_goals
                        go_wp2_with fail
                        go_meet
                        case rel => exact ⟨by rw [hch], ⟨_, by rw [HBA.out]; exact B6.app hx4 ho4⟩, B6.below (stepW hBl N6) (by omega) hx4 _⟩
                  · have E5 : EnS V V.heap.size (allR r false minor close) w3 := by rw [HBA.out, bodyR, hn]; simpa using E4
                    rw [hn] at hnb
                    clear hn hP HBA HBC E4
                    go_wp2_with (first
                      | (go_at_call 47
                         refine (hnb _).mono ?_
                         rintro e w1 ⟨rfl, rfl⟩))
                    go_meet
                    case rel => exact ⟨rfl, E5⟩
                · have E5 : EnS V V.heap.size (allR r true minor close) w3 := by rw [HBA.out, bodyR]; simpa using E4
                  clear hP HBA HBC E4
                  go_wp2_with fail
                  go_meet
                  case rel => exact ⟨rfl, E5⟩
              case rest =>
                obtain ⟨-, E5⟩ := hcut
                clear HBA hnb hZ
                obtain ⟨⟨v, hBA⟩, hBl⟩ := E5
                have hln : (allR r head minor close).length ≤ 65536 := by
                  rw [HBA2.out, List.length_append]; exact HBC.out
                obtain ⟨P, hP⟩ : ∃ P, P = allR r head minor close := ⟨_, rfl⟩
                rw [← hP] at hBA hln HE
                have ho := hBA.own
                obtain ⟨A9, c9, hv9, hc9, -, -⟩ := hBA.own.form
                subst hv9
                obtain ⟨t0, t1⟩ := hBA.blk.c1
                have hl2 : ¬ (65536 : Int) < (P.length : Int) := by omega
                have hgs := LV.size
                clear hBA HBC HBA2 hP hln
                go_wp2
                go_ret2
                exact ⟨A9, c9, by rw [HE.out]; rfl, by rw [HE.out]; exact hc9, by rw [HE.out]; exact Own.lower ho hgs, LV.trans (hBl.mono hgs)⟩
end Go.Proofs.YtmjekdnfkgalbaaGreatDoor
