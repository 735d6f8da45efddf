/- strconv.FormatInt to base 16; ascii.HexText. -/
import Derived.Test.YtmjekdnfkgalbaaGreatDoorHex
namespace Go.Proofs.YtmjekdnfkgalbaaGreatDoor
open Go.RowKit
set_option maxRecDepth 100000
set_option maxHeartbeats 2000000

/-- What is read of the table of trailing zeros: its entry for 16. -/
def TZ (w : World) : Prop := w.cell? ⟨7, 15, none⟩ = some (.int .u8 4)
theorem TZ.below {w w' : World} {B : Nat} (h : TZ w) (hb : Below B w w') (hB : w.heap.size ≤ B) : TZ w' := by
  have h1 : 7 < w.heap.size := by
    rcases Nat.lt_or_ge 7 w.heap.size with h1 | h1
    · exact h1
    · unfold TZ at h; simp [World.cell?, Array.getElem?_eq_none h1] at h
  exact (hb.cell (p := ⟨7, 15, none⟩) (Nat.lt_of_lt_of_le h1 hB)).trans h

theorem lib_tz (w : World) (h : TZ w) :
    Calls Tryz.prog 171 #[.int .u64 16] w fun e w' => e = .returned (.int .i64 4) ∧ w = w' := by
  unfold TZ at h
  have b0 : bits BinOp.and IntKind.u64 16 (IntKind.u64.wrap (-16)) = 16 := by decide +kernel
  have b1 : IntKind.u64.wrap (16 * 285870213051353865) = 4573923408821661840 := by decide +kernel
  have b2 : (4573923408821661840 : Int) / 288230376151711744 = 15 := by decide +kernel
  go_enter Tryz.func171, Tryz.ntmps171
  go_wp2
  go_ret
  exact ⟨rfl, rfl⟩
theorem lib_tz0 (w : World) (h : TZ w) :
    Calls Tryz.prog 163 #[.int .u64 16] w fun e w' => e = .returned (.int .i64 4) ∧ w = w' := by
  go_enter Tryz.func163, Tryz.ntmps163
  go_wp2_with (go_at_call 171; refine (lib_tz _ h).mono ?_; rintro e w' ⟨rfl, rfl⟩)
  go_ret
  exact ⟨rfl, rfl⟩
theorem lib_pow2 (w : World) :
    Calls Tryz.prog 162 #[.int .i64 16] w fun e w' => e = .returned (.bool true) ∧ w = w' := by
  have b1 : bits BinOp.and IntKind.i64 16 15 = 0 := by decide +kernel
  go_enter Tryz.func162, Tryz.ntmps162
  go_wp2
  go_ret
  exact ⟨rfl, rfl⟩
def D36 : ByteArray := ⟨#[48, 49, 50, 51, 52, 53, 54, 55, 56, 57, 97, 98, 99, 100, 101, 102, 103, 104, 105, 106, 107, 108, 109, 110, 111, 112, 113, 114, 115, 116, 117, 118, 119, 120, 121, 122]⟩
theorem d36_bt (d : Nat) (h : d < 16) : PlainAid.bt D36 d = ((dch d).toNat : Int) := by
  have : ∀ e : Fin 16, PlainAid.bt D36 e.val = ((dch e.val).toNat : Int) := by decide
  exact this ⟨d, h⟩
theorem and15 (m : Nat) (h : m ≤ 9223372036854775807) : bits BinOp.and IntKind.u64 (m : Int) 15 = ((m % 16 : Nat) : Int) := by
  rw [show (15 : Int) = ((15 : Nat) : Int) from rfl, u64_and_nat m 15 (by omega) (by omega), show (15 : Nat) = 2 ^ 4 - 1 from rfl, Nat.and_two_pow_sub_one_eq_mod]
theorem set_drop (cs : Array Value) (k : Nat) (hk : 0 < k) (hs : k ≤ cs.size) (v : Value) (l : List Value) (h : cs.toList.drop k = l) : (cs.setIfInBounds (k - 1) v).toList.drop (k - 1) = v :: l := by
  rw [Array.toList_setIfInBounds, List.drop_eq_getElem_cons (by simp; omega), show k - 1 + 1 = k by omega]
  simp only [List.getElem_set_self, List.cons.injEq, true_and]
  rw [← h]
  simp only [List.drop_set]
  rw [if_pos (by omega)]
theorem lib_fb (N : Nat) (w : World) (h : TZ w) (hN : N ≤ 9223372036854775807) :
    Calls Tryz.prog 150 #[.slice none 0 0, .int .u64 N, .int .i64 16, .bool false, .bool false] w fun e w' => e = .returned (.tuple #[.slice none 0 0, sv (digs 16 N)]) ∧ Below w.heap.size w w' := by
  have hal : Tryz.prog.arrayLen 157 = 65 := by kernel_rfl
  have hat : Tryz.prog.underlying 157 = some (.array 65 5) := by kernel_rfl
  have HAL := Lib.hid hal
  clear hal
  go_enter Tryz.func150, Tryz.ntmps150
  go_wp2_with (first
    | (go_at_call 162; refine (lib_pow2 _).mono ?_; rintro e w' ⟨rfl, rfl⟩)
    | (go_at_call 163; refine (lib_tz0 _ (h.below ((Below.refl _ _).alloc (Nat.le_refl _) _) (Nat.le_refl _))).mono ?_; rintro e w' ⟨rfl, rfl⟩))
  clear h
  go_loopw [1, 13] (fun u i wr => ∃ (m k : Nat) (cs : Array Value) (acc : Bs), u = .int .u64 m ∧ i = .int .i64 k ∧ 50 ≤ k ∧ k ≤ 65 ∧ m ≤ 9223372036854775807 ∧ Hid (m < 16 ^ (k - 49)) ∧ Blk wr w.heap.size 157 cs ∧ Hid (cs.size = 65 ∧ cs.toList.drop k = acc.map bv ∧ digs 16 N = digs 16 m ++ acc) ∧ Below w.heap.size w wr) (fun u _ _ => (intOf u).toNat)
  case atStart => exact ⟨N, 65, Tryz.zeroCells157, [], rfl, rfl, by omega, by omega, by omega, show N < 16 ^ 16 by omega, Blk.new' w _ rfl _ _, ⟨by kernel_rfl, by kernel_rfl, by simp⟩, allocW (Below.refl _ _) _⟩
  case round =>
    obtain ⟨m, k, cs, acc, rfl, rfl, hk0, hk1, hm, Hp, hb, Hc, L⟩ := hrel
    have hdx := PlainAid.get_bt D36
    unfold D36 at hdx
    have hsz := Hc.out.1
    have hcell : wr.cell? ⟨w.heap.size, k - 1, none⟩ = some (cs.getD (k - 1) undef) := by rw [hb.cell, Array.getD_eq_getD_getElem?, Array.getElem?_eq_getElem (by omega)]; rfl
    have hfro := hb.frozen (k - 1)
    have Hsz := Lib.hid hsz
    clear hsz
    by_cases hlt : 16 ≤ m
    · have ha := and15 m hm
      have hd := d36_bt (m % 16) (by omega)
      unfold D36 at hd
      go_wp2
      go_roundw
      case rel =>
        refine ⟨m / 16, k - 1, cs.setIfInBounds (k - 1) (bv (dch (m % 16))), dch (m % 16) :: acc, by go_num, by go_num, ?_, by omega, by omega, ?_, hb.set_ _ _, ⟨by simp [Hsz.out], ?_, ?_⟩, setW L (Nat.le_refl _) _⟩
        · have := Hp.out
          rcases (by omega : k = 50 ∨ 51 ≤ k) with rfl | h
          · simp at this; omega
          · exact (by omega : 50 ≤ k - 1)
        · have := Hp.out
          show m / 16 < 16 ^ (k - 1 - 49)
          rw [show k - 49 = (k - 1 - 49) + 1 by (rcases (by omega : k = 50 ∨ 51 ≤ k) with rfl | h; (simp at this; omega); omega), Nat.pow_succ] at this
          exact Nat.div_lt_of_lt_mul (by rwa [Nat.mul_comm] at this)
        · exact set_drop cs k (by omega) (by rw [Hsz.out]; omega) _ _ Hc.out.2.1
        · rw [Hc.out.2.2, digs_step 16 m (by omega), if_neg (by omega)]; simp
      case measure => simp [intOf]; omega
    · have hd := d36_bt m (by omega)
      unfold D36 at hd
      have hsl : ∀ wx : World, (Instr.sliceAt 157 (.pointer (some ⟨w.heap.size, 0, none⟩)) (some (.int .i64 ((k : Int) - 1))) none none).run Tryz.prog wx = .ok (.slice (some ⟨w.heap.size, k - 1, none⟩) (65 - (k - 1)) (65 - (k - 1))) wx := by
        intro wx
        have h := run_sliceAt_array_l (P := Tryz.prog) wx 157 ⟨w.heap.size, 0, none⟩ (by kernel_rfl) .i64 ((k : Int) - 1) (by omega) (by rw [HAL.out]; omega)
        rw [h, HAL.out, show ((k : Int) - 1).toNat = k - 1 by omega]
        have h1 : ((sizeOf (Tryz.prog.elem 157)).run Tryz.prog wx) = .ok 1 wx := by kernel_rfl
        rw [h1]
        simp only [Result.andThen_ok, slicedAt, Nat.mul_one]
        rw [if_neg (by omega), add_lit', Nat.zero_add]
      have hb2 : Blk (wr.setCell ⟨w.heap.size, k - 1, none⟩ (bv (dch m))) w.heap.size 157 (cs.setIfInBounds (k - 1) (bv (dch m))) := hb.set_ _ _
      have hdr := set_drop cs k (by omega) (by rw [Hsz.out]; omega) (bv (dch m)) _ Hc.out.2.1
      have hrd : Rd (wr.setCell ⟨w.heap.size, k - 1, none⟩ (bv (dch m))) (w.heap.size + 1) 1 (some ⟨w.heap.size, k - 1, none⟩) (65 - (k - 1)) ((dch m :: acc).map bv) := by
        have hlen : (cs.setIfInBounds (k - 1) (bv (dch m))).toList.length = 65 := by simp [Hsz.out]
        refine ⟨by rw [List.map_cons, ← hdr, List.length_drop, hlen]; omega, fun _ => ⟨w.heap.size, k - 1, rfl, by omega, fun j u hu => ?_⟩⟩
        rw [hb2.cell]
        rw [List.map_cons, ← hdr, List.getElem?_drop, Array.getElem?_toList] at hu
        exact hu
      clear hdr hb2
      go_wp2_with (refine wpList_toString _ rfl (.tmp 100) 22 9 rfl 5 Tryz.underlying22 Tryz.underlying5 Tryz.underlying9 _ _ _ _ _ rfl hrd ?_)
      go_ret2
      refine ⟨?_, setW L (Nat.le_refl _) _⟩
      have e : digs 16 N = dch m :: acc := by rw [Hc.out.2.2, digs_step 16 m (by omega), if_pos (by omega), Nat.mod_eq_of_lt (by omega)]; rfl
      rw [e]
      rfl
theorem lib_fi (N : Nat) (w : World) (h : TZ w) (hN : N ≤ 9223372036854775807) :
    Calls Tryz.prog 124 #[.int .i64 N, .int .i64 16] w fun e w' => e = .returned (sv (digs 16 N)) ∧ Below w.heap.size w w' := by
  go_enter Tryz.func124, Tryz.ntmps124
  go_wp2_with (go_at_call 150; refine (lib_fb N _ h hN).mono ?_; rintro e w' ⟨rfl, L⟩)
  go_ret
  exact ⟨rfl, L⟩
theorem lib_fi0 (N : Nat) (w : World) (h : TZ w) (hN : N ≤ 9223372036854775807) :
    Calls Tryz.prog 104 #[.int .i64 N, .int .i64 16] w fun e w' => e = .returned (sv (digs 16 N)) ∧ Below w.heap.size w w' := by
  go_enter Tryz.func104, Tryz.ntmps104
  go_wp2_with (go_at_call 124; refine (lib_fi N _ h hN).mono ?_; rintro e w' ⟨rfl, L⟩)
  go_ret
  exact ⟨rfl, L⟩
theorem asc_HexText (n : Int) (w : World) (h1 : n ≤ 9223372036854775807) (h : TZ w) :
    Calls Tryz.prog 80 #[.int .i64 n] w fun e w' => e = .returned (sv (digs 16 n.toNat)) ∧ Below w.heap.size w w' := by
  have e : max 0 n = (n.toNat : Int) := by omega
  have E := Lib.hid e
  clear e
  go_enter Tryz.func80, Tryz.ntmps80
  go_wp2_with fail
  rw [E.out]
  refine (lib_fi0 n.toNat _ h (by omega)).mono ?_
  rintro e w' ⟨rfl, L⟩
  go_wp2
  go_ret
  exact ⟨rfl, L⟩
end Go.Proofs.YtmjekdnfkgalbaaGreatDoor
