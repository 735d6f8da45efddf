/- chunk.Encode. -/
import Derived.Test.YtmjekdnfkgalbaaGreatDoorByP
import Derived.Test.YtmjekdnfkgalbaaGreatDoorHex
import Derived.Test.YtmjekdnfkgalbaaGreatDoorNum
import Derived.Deep.QuietTactic
import Derived.BigQuiet
import Derived.OwnWalk
import Derived.Test.YtmjekdnfkgalbaaGreatDoorFmt
namespace Go.Proofs.YtmjekdnfkgalbaaGreatDoor
open Go.RowKit
set_option maxRecDepth 100000
set_option maxHeartbeats 2000000

/-- A row of rows of bytes that may be read. -/
def RdS (w : World) (B : Nat) (A : Option Addr) (n : Nat) (ps : List Bs) : Prop :=
  ∃ vs : List Value, Rd w B 1 A n vs ∧ ps.length = n ∧ ∀ (i : Nat) (p : Bs), ps[i]? = some p → ∃ (Ai : Option Addr) (ci : Nat), vs[i]? = some (Value.slice Ai p.length ci) ∧ Rd w B 1 Ai p.length (p.map bv)
theorem RdS.below {w w' : World} {B n : Nat} {A : Option Addr} {ps : List Bs} (h : RdS w B A n ps) (hb : Below B w w') : RdS w' B A n ps := by
  obtain ⟨vs, h1, h2, h3⟩ := h
  refine ⟨vs, h1.below hb, h2, fun i p hp => ?_⟩
  obtain ⟨Ai, ci, e, hr⟩ := h3 i p hp
  exact ⟨Ai, ci, e, hr.below hb⟩
theorem RdS.at_ {w : World} {B n : Nat} {A : Option Addr} {ps : List Bs} (h : RdS w B A n ps) {k : Nat} {p : Bs} (hp : ps[k]? = some p) :
    ∃ b o Ai ci, A = some ⟨b, o, none⟩ ∧ b < B ∧ w.cell? ⟨b, o + k, none⟩ = some (Value.slice Ai p.length ci) ∧ Rd w B 1 Ai p.length (p.map bv) := by
  obtain ⟨vs, h1, h2, h3⟩ := h
  obtain ⟨Ai, ci, e, hr⟩ := h3 k p hp
  have hk : k < ps.length := (List.getElem?_eq_some_iff.1 hp).1
  obtain ⟨b, o, ea, hb, hc⟩ := h1.2 (by omega)
  exact ⟨b, o, Ai, ci, ea, hb, hc k _ e, hr⟩
theorem flat_take (ps : List Bs) (k : Nat) (p : Bs) (h : ps[k]? = some p) : (ps.take (k + 1)).flatMap encP = (ps.take k).flatMap encP ++ encP p := by
  have hk : k < ps.length := (List.getElem?_eq_some_iff.1 h).1
  rw [List.take_succ_eq_append_getElem hk, List.flatMap_append]
  have : ps[k] = p := (List.getElem?_eq_some_iff.1 h).2
  simp [this]
theorem flat_le (ps : List Bs) (k : Nat) : ((ps.take k).flatMap encP).length ≤ (ps.flatMap encP).length := by
  conv => rhs; rw [← List.take_append_drop k ps]
  rw [List.flatMap_append, List.length_append]
  omega
theorem encP_pos (p : Bs) (h : 0 < p.length) : encP p = (digs 16 p.length ++ [13, 10]) ++ p ++ [13, 10] := by
  rw [encP, if_neg (by rintro rfl; simp at h)]
theorem chk_Encode (A : Option Addr) (n c B : Nat) (ps : List Bs) (w : World) (h : RdS w B A n ps) (hB : B ≤ w.heap.size) (hT : (ps.flatMap encP).length ≤ 1000000) (hn : n ≤ 1000000) (ht : TZ w) :
    Calls Tryz.prog 48 #[.slice A n c] w (BytesPost w (encL ps)) := by
  have hl : ps.length = n := by obtain ⟨vs, h1, h2, h3⟩ := h; exact h2
  go_enter Tryz.func48, Tryz.ntmps48
  go_wp2
  go_loopw [3, 8] (fun v i wr => ∃ k : Nat, k ≤ n ∧ i = .int .i64 k ∧ OB wr w.heap.size v ((ps.take k).flatMap encP) ∧ Below w.heap.size w wr) (fun _ i _ => n - (intOf i).toNat)
  case atStart => exact ⟨0, Nat.zero_le _, rfl, OB.nil _ _, Below.refl _ _⟩
  case round =>
    obtain ⟨k, hk, rfl, ho, L⟩ := hrel
    have hS := L.size
    have hF := flat_le ps k
    by_cases hlt : k < n
    · obtain ⟨p, hp, -⟩ : ∃ p, ps[k]? = some p ∧ True := ⟨ps[k], by simp [hl, hlt], trivial⟩
      have H2 := Lib.hid (flat_take ps k p hp)
      have hF2 := flat_le ps (k + 1)
      rw [H2.out, List.length_append] at hF2
      obtain ⟨b, o, Ai, ci, rfl, hb, hcell, hr⟩ := (h.below (L.mono hB)).at_ hp
      have HP := Lib.hid hp
      clear hp
      rcases Nat.eq_zero_or_pos p.length with h0 | h0
      · obtain rfl : p = [] := List.eq_nil_of_length_eq_zero h0
        clear h0
        rw [List.length_nil] at hcell hr
        go_wp2
        go_roundw
        case rel => exact ⟨k + 1, by omega, by go_num, by rw [H2.out, encP_nil, List.append_nil]; exact ho, L⟩
        case measure => simp [intOf]; omega
      · have hE := encP_pos p h0
        have hEl : (encP p).length = (digs 16 p.length ++ [13, 10]).length + p.length + 2 := by rw [hE]; simp only [List.length_append, List.length_cons, List.length_nil]
        have HE := Lib.hid hE
        clear hE
        go_wp2_with fail
        refine (asc_HexText (p.length : Int) wr (by omega) (ht.below L (Nat.le_refl _))).mono ?_
        rintro e w1 ⟨rfl, L1⟩
        have ho1 := ho.belowW L1
        have L2 := stepW L L1
        have hr1 := hr.below (L1.mono (by omega : B ≤ wr.heap.size))
        rw [Int.toNat_natCast]
        obtain ⟨X, hX⟩ : ∃ X : ByteArray, X = ⟨(digs 16 p.length).toArray⟩ := ⟨_, rfl⟩
        have HX := Lib.hid (show X.data.toList = digs 16 p.length by rw [hX])
        have hXs : X.size + 2 = (digs 16 p.length ++ [13, 10]).length := by rw [← len_data, HX.out]; simp
        rw [show (sv (digs 16 p.length) : Value) = .string X by rw [hX]]
        have hXb : X.size ≤ 1000000 := by omega
        have HXs := Lib.hid hXs
        clear hXs hX ho L L1 hr hcell
        have hS2 := L2.size
        go_wp2_with (at_builtin; first
          | (refine wp_appStr rfl _ _ rfl w.heap.size _ _ rfl ho1 (X ++ ⟨#[13, 10]⟩) rfl (by rw [ByteArray.size_append]; show _ + (X.size + 2) ≤ _; omega) hS2 ?_; intro v2 w2 ho2 hx2; have L3 := L2.trans (hx2.below ho1 (Nat.le_refl _) hS2); have hS3 := L3.size; have hr2 := hr1.below ((hx2.below ho1 (Nat.le_refl _) hS2).mono hB); rw [app_data, HX.out, show (⟨#[13, 10]⟩ : ByteArray).data.toList = [13, 10] from rfl] at ho2; have hXs := HXs.out; have hq2 : ((ps.take k).flatMap encP ++ (digs 16 p.length ++ [13, 10])).length ≤ 1000000 := (by rw [List.length_append]; omega); clear hXs)
          | (refine wp_appRd rfl _ _ rfl w.heap.size _ _ rfl ho2 (Below.refl _ _) Ai p.length ci B rfl p hr2 (by omega) hS3 ?_; intro v3 w3 ho3 hx3; have L4 := L3.trans (hx3.below ho2 (Nat.le_refl _) hS3); have hS4 := L4.size)
          | (refine wp_appStr rfl _ _ rfl w.heap.size _ _ rfl ho3 ⟨#[13, 10]⟩ rfl (by rw [List.length_append]; show _ + 2 ≤ _; omega) hS4 ?_; intro v4 w4 ho4 hx4))
        go_roundw
        case rel => exact ⟨k + 1, by omega, by go_num, by rw [H2.out, HE.out]; simpa [List.append_assoc] using ho4, L4.trans (hx4.below ho3 (Nat.le_refl _) hS4)⟩
        case measure => simp [intOf]; omega
    · obtain rfl : k = n := by omega
      have hfull : (ps.take k).flatMap encP = ps.flatMap encP := by rw [List.take_of_length_le (by omega)]
      rw [hfull] at ho
      clear hfull
      go_wp2_with (at_builtin; refine wp_appStr rfl _ _ rfl w.heap.size _ _ rfl ho ⟨#[48, 13, 10, 13, 10]⟩ rfl (by show _ + 5 ≤ _; omega) hS ?_; intro v2 w2 ho2 hx2)
      go_ret
      exact ⟨_, rfl, ho2, L.trans (hx2.below ho (Nat.le_refl _) hS)⟩
end Go.Proofs.YtmjekdnfkgalbaaGreatDoor
