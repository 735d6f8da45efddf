/- usherlaw11: TargetPercents. -/
import Derived.Test.YtfpojnijjpojlaaDoorTPl3
import Derived.Test.YtfpojnijjpojlaaDoorTLaw1
import Derived.StillTailTactics
namespace Go.Proofs.YtfpojnijjpojlaaDoor
open Go.RowKit
set_option maxRecDepth 100000
set_option maxHeartbeats 4000000

def loD (b : UInt8) : UInt8 := hexs.getD (b.toNat / 16) 0
def upD (b : UInt8) : UInt8 := ([48, 49, 50, 51, 52, 53, 54, 55, 56, 57, 65, 66, 67, 68, 69, 70] : Bs).getD (b.toNat % 16) 0
theorem pctE_lu (b : UInt8) : pctE b = [37, loD b, upD b] := rfl
theorem lo_bt (b : UInt8) : PlainAid.bt ⟨#[48, 49, 50, 51, 52, 53, 54, 55, 56, 57, 97, 98, 99, 100, 101, 102]⟩ (b.toNat / 16) = ((loD b).toNat : Int) :=
  byte_all (fun b => PlainAid.bt ⟨#[48, 49, 50, 51, 52, 53, 54, 55, 56, 57, 97, 98, 99, 100, 101, 102]⟩ (b.toNat / 16) = ((loD b).toNat : Int)) (by decide +kernel) b
theorem up_bt (b : UInt8) : PlainAid.bt ⟨#[48, 49, 50, 51, 52, 53, 54, 55, 56, 57, 65, 66, 67, 68, 69, 70]⟩ (b.toNat % 16) = ((upD b).toNat : Int) :=
  byte_all (fun b => PlainAid.bt ⟨#[48, 49, 50, 51, 52, 53, 54, 55, 56, 57, 65, 66, 67, 68, 69, 70]⟩ (b.toNat % 16) = ((upD b).toNat : Int)) (by decide +kernel) b
theorem conv_two (x y : UInt8) (W : World) : (convert 37 9 (.slice (some ⟨W.heap.size, 0, none⟩) 2 2)).run Tryd.prog ((W.alloc (.cells #[.int .u8 (x.toNat : Int), .int .u8 (y.toNat : Int)] 5)).drew) = .ok (.string ⟨#[x, y]⟩) ((W.alloc (.cells #[.int .u8 (x.toNat : Int), .int .u8 (y.toNat : Int)] 5)).drew) :=
  run_str_rd (l := [x, y]) (B := W.heap.size + 1) ((Rd.new W _ rfl [bv x, bv y] 5 2 1 rfl).drew) 2 37 5 9 Tryd.underlying37 Tryd.underlying5 Tryd.underlying9
theorem law_Percents (A : Option Addr) (n c : Nat) (l : Bs) (w : World) (hr : Rd w w.heap.size 1 A n (l.map bv)) (hn : n ≤ maxLen) (hm : ML w) :
    Calls Tryd.prog 8 #[.slice A n c] w fun e w' => e = .returned (.bool true) ∧ Below w.heap.size w w' := by
  have hl : l.length = n := by simpa using hr.1
  unfold maxLen at hn
  go_enter Tryd.func8, Tryd.ntmps8
  by_cases h60 : n ≤ 60
  · go_wp2
    go_loopw [3, 4] (fun s i wr => ∃ (k : Nat) (S : ByteArray), k ≤ n ∧ i = .int .i64 k ∧ s = .string S ∧ Hid (S.data.toList = 47 :: (l.take k).flatMap pctE) ∧ Hid (∀ b ∈ l.take k, b ≠ 0) ∧ Below w.heap.size w wr) (fun _ i _ => n - (intOf i).toNat)
    case atStart => exact ⟨0, ⟨#[47]⟩, Nat.zero_le _, rfl, rfl, rfl, by intro b hb; simp at hb, Below.refl _ _⟩
    case round =>
      obtain ⟨k, S, hk, rfl, rfl, HS, HN, L⟩ := hrel
      have hSs : S.size ≤ 200 := by
        rw [← len_data, HS.out, List.length_cons, pct_len]
        have := List.length_take_le k l
        omega
      by_cases hlt : k < n
      · obtain ⟨b, hb⟩ : ∃ b, l[k]? = some b := ⟨l[k]'(by omega), List.getElem?_eq_getElem (by omega)⟩
        obtain ⟨g, o, rfl, hg, hcs⟩ := hr.2 (by omega)
        have hcell : wr.cell? ⟨g, o + k, none⟩ = some (.int .u8 b.toNat) := by
          rw [L.cell (p := ⟨g, o + k, none⟩) hg]
          exact hcs k _ (by simp [hb])
        have hb8 := u8lt b
        by_cases hb0 : b = 0
        · subst hb0
          have hcell0 : wr.cell? ⟨g, o + k, none⟩ = some (.int .u8 0) := hcell
          clear hcell hcs hb
          go_wp2_with fail
          refine (law11_known _ (hm.below L (Nat.le_refl _))).mono ?_
          rintro e w3 ⟨rfl, L3⟩
          go_wp2
          go_ret
          exact ⟨rfl, stepW L L3⟩
        · have hne : ((b.toNat : Int) == 0) = false := by
            rw [Bool.eq_false_iff]; intro h; exact hb0 (u8inj (by have := beq_iff_eq.1 h; simp; omega))
          have H2 := Lib.hid (show (47 :: (l.take (k + 1)).flatMap pctE) = (47 :: (l.take k).flatMap pctE) ++ [37] ++ [loD b, upD b] by rw [take_one l k b hb]; simp [pctE_lu])
          have HN2 : Hid (∀ x ∈ l.take (k + 1), x ≠ 0) := by
            intro x hx
            rw [take_one l k b hb] at hx
            rcases List.mem_append.1 hx with hx | hx
            · exact HN.out x hx
            · have : x = b := by simpa using hx
              exact this ▸ hb0
          have f1 := lo_bt b
          have f2 := up_bt b
          have f3 : bits BinOp.and IntKind.u8 (b.toNat : Int) 15 = ((b.toNat % 16 : Nat) : Int) := by rw [u8_and15 (x := (b.toNat : Int)) (by omega) (by omega)]; omega
          have q1 : ((b.toNat : Int) % 16).toNat = b.toNat % 16 := by omega
          have q2 : (0 : Int) ≤ (b.toNat : Int) % 16 := by omega
          have q3 : (b.toNat : Int) % 16 < 16 := by omega
          have q4 : ((b.toNat : Int) / 16).toNat = b.toNat / 16 := by omega
          have q5 : (0 : Int) ≤ (b.toNat : Int) / 16 := by omega
          have q6 : (b.toNat : Int) / 16 < 16 := by omega
          have q7 : b.toNat % 16 < 16 := by omega
          have q8 : b.toNat / 16 < 16 := by omega
          have g1 := PlainAid.get_bt ⟨#[48, 49, 50, 51, 52, 53, 54, 55, 56, 57, 97, 98, 99, 100, 101, 102]⟩
          have g2 := PlainAid.get_bt ⟨#[48, 49, 50, 51, 52, 53, 54, 55, 56, 57, 65, 66, 67, 68, 69, 70]⟩
          have hcv := conv_two (loD b) (upD b)
          clear hcs hb hb0
          go_wp2
          go_region
          go_wp2
          go_roundw
          case rel => exact ⟨k + 1, _, by omega, by go_num, rfl, by rw [H2.out, app_data, app_data, HS.out]; exact Lib.hid rfl, HN2, below_drewN' (L.alloc L.size _) 1⟩
          case measure => simp [intOf]; omega
      · have hkl : l.take k = l := List.take_of_length_le (by omega)
        have h0 := HN.out
        have hS := HS.out
        rw [hkl] at h0 hS
        have hlen : S.data.toList.length ≤ 200 := by rw [len_data]; exact hSs
        have hpre : preB [47] S.data.toList = true := by rw [hS]; rfl
        have hrw := hr.belowW (Nat.le_refl _) (L.mono (Nat.le_refl _))
        have HP0 := Lib.hid (show cleanL (47 :: l) = none → parseL getB S.data.toList = (tgt0, 8) from fun hC => by rw [parse_get _ hlen hpre, hS, org_pct l h0, hC])
        have HP1 := Lib.hid (show ∀ p, cleanL (47 :: l) = some p → parseL getB S.data.toList = (⟨1, [], p, []⟩, 0) from fun p hC => by rw [parse_get _ hlen hpre, hS, org_pct l h0, hC])
        clear hkl h0 hS hlen hpre HS HN hr
        have hmr := hm.below L (Nat.le_refl _)
        obtain ⟨P, hP⟩ : ∃ P : ByteArray, P = ⟨#[47]⟩ ++ ⟨l.toArray⟩ := ⟨_, rfl⟩
        have hPl : P.data.toList = 47 :: l := by rw [hP, app_data]; rfl
        have hPs : P.size ≤ 61 := by rw [← len_data, hPl, List.length_cons]; omega
        have hPe : (⟨#[47]⟩ ++ ⟨l.toArray⟩ : ByteArray) = P := hP.symm
        have HPl := Lib.hid hPl
        clear hP hPl
        go_wp2_with fail
        refine (tgt_Parse ⟨getB.toArray⟩ S wr (by omega) hmr).mono ?_
        rw [show (⟨getB.toArray⟩ : ByteArray).data.toList = getB from rfl]
        cases hC : cleanL (47 :: l) with
        | none =>
          rw [HP0.out hC]
          have HC := Lib.hid hC
          clear hC HP0 HP1
          rw [tgR_mk]
          rintro e w1 ⟨rfl, L1⟩
          have K1 := stepW L L1
          have hr1 := (hrw.below (L1.mono L.size)).alloc K1.size (.cells #[.int .i64 0, .string ⟨#[]⟩, .string ⟨#[]⟩, .string ⟨#[]⟩] 33)
          have LA : Below w.heap.size w (w1.alloc (.cells #[.int .i64 0, .string ⟨#[]⟩, .string ⟨#[]⟩, .string ⟨#[]⟩] 33)) := allocW K1 _
          go_wp2_with (refine wpList_toString _ rfl (.tmp 47) 37 9 rfl 5 Tryd.underlying37 Tryd.underlying5 Tryd.underlying9 A n c _ l rfl hr1 ?_)
          refine (tgt_Clean P _ (by omega) (hm.below LA (Nat.le_refl _))).mono ?_
          rw [HPl.out, HC.out, clnR_none]
          rintro e w2 ⟨rfl, L2⟩
          have K2 := stepW LA L2
          go_wp2_with fail
          refine (law11_known _ (hm.below K2 (Nat.le_refl _))).mono ?_
          rintro e w3 ⟨rfl, L3⟩
          go_wp2
          go_ret
          exact ⟨rfl, stepW K2 L3⟩
        | some p =>
          rw [HP1.out p hC]
          have HC := Lib.hid hC
          clear hC HP0 HP1
          rw [tgR_mk]
          rintro e w1 ⟨rfl, L1⟩
          have K1 := stepW L L1
          have hr1 := (hrw.below (L1.mono L.size)).alloc K1.size (.cells #[.int .i64 1, .string ⟨#[]⟩, .string ⟨p.toArray⟩, .string ⟨#[]⟩] 33)
          have LA : Below w.heap.size w (w1.alloc (.cells #[.int .i64 1, .string ⟨#[]⟩, .string ⟨p.toArray⟩, .string ⟨#[]⟩] 33)) := allocW K1 _
          have B1 : Blk (w1.alloc (.cells #[.int .i64 1, .string ⟨#[]⟩, .string ⟨p.toArray⟩, .string ⟨#[]⟩] 33)) w1.heap.size 33 #[.int .i64 1, .string ⟨#[]⟩, .string ⟨p.toArray⟩, .string ⟨#[]⟩] := Blk.new' _ _ rfl _ _
          go_wp2_with (refine wpList_toString _ rfl (.tmp 47) 37 9 rfl 5 Tryd.underlying37 Tryd.underlying5 Tryd.underlying9 A n c _ l rfl hr1 ?_)
          refine (tgt_Clean P _ (by omega) (hm.below LA (Nat.le_refl _))).mono ?_
          rw [HPl.out, HC.out, clnR_some]
          rintro e w2 ⟨rfl, L2⟩
          have K2 := stepW LA L2
          obtain ⟨j0, j1, j2, j3, i0, i1, i2, i3⟩ := (B1.belowW L2).c4
          have kq := fun w : World => run_eql_tg ⟨1, [], p, []⟩ ⟨1, [], p, []⟩ w
          rw [show tgEq ⟨1, [], p, []⟩ ⟨1, [], p, []⟩ = true by simp [tgEq]] at kq
          have kg := fun (o : Operand) (o' : Operand) (xs ys : Array Value) (w : World) => run_guard_tg .eql o o' xs ys w
          clear B1 LA hr1 hrw
          go_wp2_with fail
          refine (law11_known _ (hm.below K2 (Nat.le_refl _))).mono ?_
          rintro e w3 ⟨rfl, L3⟩
          go_wp2
          go_ret
          exact ⟨rfl, stepW K2 L3⟩
  · go_wp2
    go_ret
    exact ⟨rfl, Below.refl _ _⟩
end Go.Proofs.YtfpojnijjpojlaaDoor
