/- target.encoded. -/
import Derived.Test.YtfpojnijjpojlaaGreatDoorBuild
import Derived.Test.YtfpojnijjpojlaaGreatDoorTgt2
import Derived.Test.YtfpojnijjpojlaaGreatDoorTPl4
import Derived.StillTailTactics
namespace Go.Proofs.YtfpojnijjpojlaaGreatDoor
open Go.RowKit
set_option maxRecDepth 100000
set_option maxHeartbeats 2000000

theorem BU.alloc {w : World} {B b : Nat} {l : Bs} (h : BU w B b l) (o : Obj) : BU (w.alloc o) B b l := by
  have key : ∀ p, Lib.BuilderAt 101 5 B b p (l.map bv) w → Lib.BuilderAt 101 5 B b p (l.map bv) (w.alloc o) := by
    rintro p ⟨hB, v, hb, ho, hn⟩
    exact ⟨hB, v, by rw [Lib.alloc_old w o b (Array.getElem?_eq_some_iff.1 hb).1]; exact hb, ho.alloc _, hn⟩
  exact h.imp (key _) (key _)
theorem BU.drew {w : World} {B b : Nat} {l : Bs} (h : BU w B b l) : BU w.drew B b l := h
def uD (n : Nat) : UInt8 := ([48, 49, 50, 51, 52, 53, 54, 55, 56, 57, 65, 66, 67, 68, 69, 70] : Bs).getD n 0
theorem byteAll (p : UInt8 → Prop) [DecidablePred p] (h : ∀ x : Fin 256, p (UInt8.ofNat x.val)) (b : UInt8) : p b := by
  have := h ⟨b.toNat, b.toNat_lt⟩
  simpa using this
theorem uD_hi (b : UInt8) : PlainAid.bt ⟨#[48, 49, 50, 51, 52, 53, 54, 55, 56, 57, 65, 66, 67, 68, 69, 70]⟩ (b.toNat / 16) = ((uD (b.toNat / 16)).toNat : Int) :=
  byteAll (fun b => PlainAid.bt ⟨#[48, 49, 50, 51, 52, 53, 54, 55, 56, 57, 65, 66, 67, 68, 69, 70]⟩ (b.toNat / 16) = ((uD (b.toNat / 16)).toNat : Int)) (by decide +kernel) b
theorem uD_lo (b : UInt8) : PlainAid.bt ⟨#[48, 49, 50, 51, 52, 53, 54, 55, 56, 57, 65, 66, 67, 68, 69, 70]⟩ (b.toNat % 16) = ((uD (b.toNat % 16)).toNat : Int) :=
  byteAll (fun b => PlainAid.bt ⟨#[48, 49, 50, 51, 52, 53, 54, 55, 56, 57, 65, 66, 67, 68, 69, 70]⟩ (b.toNat % 16) = ((uD (b.toNat % 16)).toNat : Int)) (by decide +kernel) b
theorem encB_yes (b : UInt8) (h : ofB plainS b = true) : encB b = [b] := by rw [encB, if_pos h]
theorem encB_no (b : UInt8) (h : ofB plainS b = false) : encB b = [37, uD (b.toNat / 16), uD (b.toNat % 16)] := by rw [encB, if_neg (by rw [h]; decide)]; rfl
theorem pathL_one (l : Bs) (k : Nat) (b : UInt8) (h : l[k]? = some b) : pathL (l.take (k + 1)) = pathL (l.take k) ++ encB b := by
  rw [take_one l k b h]; simp [pathL]
theorem tgt_encoded (s : ByteArray) (w : World) (hs : s.size ≤ 4294967281) :
    Calls Tryz.prog 33 #[.string s] w fun e w' => e = .returned (sv (pathL s.data.toList)) ∧ Below w.heap.size w w' := by
  go_enter Tryz.func33, Tryz.ntmps33
  go_wp2
  go_loopw [8] (fun i wr => ∃ k : Nat, k ≤ s.size ∧ i = .int .i64 k ∧ BU wr w.heap.size w.heap.size (pathL (s.data.toList.take k)) ∧ Below w.heap.size w wr) (fun i _ => s.size - (intOf i).toNat)
  case atStart => exact ⟨0, Nat.zero_le _, rfl, BU.new w _ (Nat.le_refl _), allocW (Below.refl _ _) _⟩
  case round =>
    obtain ⟨k, hk, rfl, hu, L⟩ := hrel
    have hlen : (pathL (s.data.toList.take k)).length ≤ 3 * 4294967281 := Nat.le_trans (pathL_len _) (Nat.mul_le_mul_left _ (Nat.le_trans (List.length_take_le _ _) (by omega)))
    by_cases hlt : k < s.size
    · obtain ⟨b, hb, hbt⟩ := drop_bt s k hlt
      have hbs := PlainAid.get_bt s
      have hb8 := u8lt b
      have hkb : s.data.toList[k]? = some b := by rw [← List.head?_drop, hb]; rfl
      have hx : s.extract k (k + 1) = ⟨#[b]⟩ := str_ext (by rw [ext_data, hb, show k + 1 - k = 1 by omega]; rfl)
      have hP := Lib.hid (pathL_one _ k b hkb)
      have hof : allOf plainS [b] = ofB plainS b := by rw [allOf_cons]; show (ofB plainS b && true) = _; rw [Bool.and_true]
      have HL := Lib.hid hlen
      clear hb hkb hlen
      go_wp2_with fail
      refine (tgt_isOf ⟨#[b]⟩ _ _ (show (1 : Nat) ≤ maxLen by decide)).mono ?_
      rw [show (⟨#[45, 46, 95, 126, 33, 36, 38, 39, 40, 41, 42, 43, 44, 59, 61, 58, 64, 47]⟩ : ByteArray).data.toList = plainS from rfl, show (⟨#[b]⟩ : ByteArray).data.toList = [b] from rfl, hof]
      have hlen' := HL.out
      cases hO : ofB plainS b
      · have hE := encB_no b hO
        have HE := Lib.hid hE
        clear hE hof hO
        rintro e w1 ⟨rfl, rfl⟩
        have f1 := uD_hi b
        have f2 := uD_lo b
        have f3 : bits BinOp.and IntKind.u8 (b.toNat : Int) 15 = ((b.toNat % 16 : Nat) : Int) := by rw [u8_and15 (x := (b.toNat : Int)) (by omega) (by omega)]; omega
        have q1 : ((b.toNat : Int) % 16).toNat = b.toNat % 16 := by omega
        have q2 : (0 : Int) ≤ (b.toNat : Int) % 16 := by omega
        have q3 : (b.toNat : Int) % 16 < 16 := by omega
        have q4 : ((b.toNat : Int) / 16).toNat = b.toNat / 16 := by omega
        have q5 : (0 : Int) ≤ (b.toNat : Int) / 16 := by omega
        have q6 : (b.toNat : Int) / 16 < 16 := by omega
        have q7 : b.toNat % 16 < 16 := by omega
        have q8 : b.toNat / 16 < 16 := by omega
        have g2 := PlainAid.get_bt ⟨#[48, 49, 50, 51, 52, 53, 54, 55, 56, 57, 65, 66, 67, 68, 69, 70]⟩
        go_wp2
        go_still_tail 6, (by kernel_rfl)
        change wpList _ _ _ _ _ wr.drew
        have hu2 := hu.drew
        have L2 := L.drew
        clear hu L
        generalize wr.drew = w2 at hu2 L2 ⊢
        go_wp2_with fail
        have hu3 := hu2.alloc (.cells #[.int .u8 37, .int .u8 ((uD (b.toNat / 16)).toNat : Int), .int .u8 ((uD (b.toNat % 16)).toNat : Int)] 5)
        have hr3 : Rd (w2.alloc (.cells #[.int .u8 37, .int .u8 ((uD (b.toNat / 16)).toNat : Int), .int .u8 ((uD (b.toNat % 16)).toNat : Int)] 5)) (w2.heap.size + 1) 1 (some ⟨w2.heap.size, 0, none⟩) 3 (([37, uD (b.toNat / 16), uD (b.toNat % 16)] : Bs).map bv) := Rd.new w2 _ rfl [bv 37, bv (uD (b.toNat / 16)), bv (uD (b.toNat % 16))] _ 3 1 rfl
        have hlt2 : w.heap.size < w2.heap.size := by
          rcases hu2 with ⟨_, v, hb, _⟩ | ⟨_, v, hb, _⟩ <;> exact (Array.getElem?_eq_some_iff.1 hb).1
        have L3 := allocW L2 (.cells #[.int .u8 37, .int .u8 ((uD (b.toNat / 16)).toNat : Int), .int .u8 ((uD (b.toNat % 16)).toNat : Int)] 5)
        refine (bl_Write w.heap.size w.heap.size _ _ 3 3 [37, uD (b.toNat / 16), uD (b.toNat % 16)] _ hu3 _ (by simp) hr3 (fun g o e => by injection e with e; injection e with e; have := L2.size; have := hlt2; omega) (by omega) (by omega) L3.size).mono ?_
        rintro e w4 ⟨⟨v, rfl⟩, hu4, L4⟩
        go_wp2
        go_roundw
        case rel => exact ⟨k + 1, by omega, by go_num, by rw [hP.out, HE.out]; exact hu4, L3.trans L4⟩
        case measure => simp [intOf]; omega
      · have hE := encB_yes b hO
        have HE := Lib.hid hE
        clear hE hof hO
        rintro e w1 ⟨rfl, rfl⟩
        go_wp2_with fail
        refine (bl_WriteByte w.heap.size w.heap.size _ b wr hu (by omega) L.size).mono ?_
        rintro e w2 ⟨rfl, hu2, L2⟩
        go_wp2
        go_roundw
        case rel => exact ⟨k + 1, by omega, by go_num, by rw [hP.out, HE.out]; exact hu2, L.trans L2⟩
        case measure => simp [intOf]; omega
    · have e : s.data.toList.take k = s.data.toList := List.take_of_length_le (by rw [len_data]; omega)
      rw [e] at hu
      clear e
      go_wp2_with fail
      refine (bl_String _ _ _ wr hu L.size).mono ?_
      rintro e w2 ⟨rfl, L2⟩
      go_wp2
      go_ret
      exact ⟨rfl, L.trans L2⟩
end Go.Proofs.YtfpojnijjpojlaaGreatDoor
