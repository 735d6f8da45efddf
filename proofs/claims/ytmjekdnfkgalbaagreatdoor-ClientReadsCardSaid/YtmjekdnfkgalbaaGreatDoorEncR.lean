/- usherref14.Encode. -/
import Derived.Test.YtmjekdnfkgalbaaGreatDoorEncK
namespace Go.Proofs.YtmjekdnfkgalbaaGreatDoor
open Go.RowKit
set_option maxRecDepth 100000
set_option maxHeartbeats 2000000

theorem ref14_Encode (A : Option Addr) (n c B : Nat) (ps : List Bs) (w : World) (h : RdS w B A n ps) (hB : B ≤ w.heap.size) (hT : (ps.flatMap encP).length ≤ 1000000) (hn : n ≤ 1000000) :
    Calls Tryz.prog 31 #[.slice A n c] w (BytesPost w (encL ps)) := by
  have hl : ps.length = n := by obtain ⟨vs, h1, h2, h3⟩ := h; exact h2
  go_enter Tryz.func31, Tryz.ntmps31
  go_wp2
  go_loopw [3, 4] (fun v i wr => ∃ k : Nat, k ≤ n ∧ i = .int .i64 k ∧ OB wr w.heap.size v ((ps.take k).flatMap encP) ∧ Below w.heap.size w wr) (fun _ i _ => n - (intOf i).toNat)
  case atStart => exact ⟨0, Nat.zero_le _, rfl, OB.nil _ _, Below.refl _ _⟩
  case round =>
    obtain ⟨k, hk, rfl, ho, L⟩ := hrel
    have hS := L.size
    have hF := flat_le ps k
    by_cases hlt : k < n
    · obtain ⟨p, hp, -⟩ : ∃ p, ps[k]? = some p ∧ True := ⟨ps[k], by simp [hl, hlt], trivial⟩
      have H2 := Lib.hid (flat_take ps k p hp)
      have hF2 := flat_le ps (k + 1)
      rw [H2.out, List.length_append] at hF2
      obtain ⟨b, o, Ai, ci, rfl, hb, hcell, hr⟩ := (h.below (L.mono hB)).at_ hp
      have HP := Lib.hid hp
      clear hp
      rcases Nat.eq_zero_or_pos p.length with h0 | h0
      · obtain rfl : p = [] := List.eq_nil_of_length_eq_zero h0
        clear h0
        rw [List.length_nil] at hcell hr
        go_wp2
        go_roundw
        case rel => exact ⟨k + 1, by omega, by go_num, by rw [H2.out, encP_nil, List.append_nil]; exact ho, L⟩
        case measure => simp [intOf]; omega
      · have hE := encP_pos p h0
        have hEl : (encP p).length = (digs 16 p.length ++ [13, 10]).length + p.length + 2 := by rw [hE]; simp only [List.length_append, List.length_cons, List.length_nil]
        have HE := Lib.hid hE
        clear hE
        go_wp2_with fail
        refine (ref_HexText (p.length : Int) wr (by omega)).mono ?_
        rintro e w1 ⟨rfl, L1⟩
        have ho1 := ho.belowW L1
        have hcell0 := hcell
        clear hcell
        have L2 := stepW L L1
        have hr1 := hr.below (L1.mono (by omega : B ≤ wr.heap.size))
        rw [Int.toNat_natCast]
        obtain ⟨X, hX⟩ : ∃ X : ByteArray, X = ⟨(digs 16 p.length).toArray⟩ := ⟨_, rfl⟩
        have HX := Lib.hid (show X.data.toList = digs 16 p.length by rw [hX])
        have hXs : X.size + 2 = (digs 16 p.length ++ [13, 10]).length := by rw [← len_data, HX.out]; simp
        rw [show (sv (digs 16 p.length) : Value) = .string X by rw [hX]]
        have hXb : X.size ≤ 1000000 := by omega
        have HXs := Lib.hid hXs
        clear hXs hX ho L hr
        have hS2 := L2.size
        have hcell1 : w1.cell? ⟨b, o + k, none⟩ = some (.slice Ai p.length ci) := (L1.cell (p := ⟨b, o + k, none⟩) (by show b < _; omega)).trans hcell0
        clear hcell0 L1
        go_wp2_with (at_builtin; first
          | (refine wp_appStr rfl _ _ rfl w.heap.size _ _ rfl ho1 (X ++ ⟨#[13, 10]⟩) rfl (by rw [ByteArray.size_append]; show _ + (X.size + 2) ≤ _; omega) hS2 ?_; intro v2 w2 ho2 hx2; have hb2 := hx2.below ho1 (Nat.le_refl _) hS2; have L3 := L2.trans hb2; have hcell2 : w2.cell? ⟨b, o + k, none⟩ = some (.slice Ai p.length ci) := (hb2.cell (p := ⟨b, o + k, none⟩) (by show b < _; omega)).trans hcell1; have hS3 := L3.size; have hr2 := hr1.below ((hx2.below ho1 (Nat.le_refl _) hS2).mono hB); rw [app_data, HX.out, show (⟨#[13, 10]⟩ : ByteArray).data.toList = [13, 10] from rfl] at ho2; have hXs := HXs.out; have hq2 : ((ps.take k).flatMap encP ++ (digs 16 p.length ++ [13, 10])).length ≤ 1000000 := (by rw [List.length_append]; omega); clear hXs)
          | (refine wp_appRd rfl _ _ rfl w.heap.size _ _ rfl ho2 (Below.refl _ _) Ai p.length ci B rfl p hr2 (by omega) hS3 ?_; intro v3 w3 ho3 hx3; have L4 := L3.trans (hx3.below ho2 (Nat.le_refl _) hS3); have hS4 := L4.size)
          | (refine wp_appStr rfl _ _ rfl w.heap.size _ _ rfl ho3 ⟨#[13, 10]⟩ rfl (by rw [List.length_append]; show _ + 2 ≤ _; omega) hS4 ?_; intro v4 w4 ho4 hx4))
        go_roundw
        case rel => exact ⟨k + 1, by omega, by go_num, by rw [H2.out, HE.out]; simpa [List.append_assoc] using ho4, L4.trans (hx4.below ho3 (Nat.le_refl _) hS4)⟩
        case measure => simp [intOf]; omega
    · obtain rfl : k = n := by omega
      have hfull : (ps.take k).flatMap encP = ps.flatMap encP := by rw [List.take_of_length_le (by omega)]
      rw [hfull] at ho
      clear hfull
      go_wp2_with (at_builtin; refine wp_appStr rfl _ _ rfl w.heap.size _ _ rfl ho ⟨#[48, 13, 10, 13, 10]⟩ rfl (by show _ + 5 ≤ _; omega) hS ?_; intro v2 w2 ho2 hx2)
      go_ret
      exact ⟨_, rfl, ho2, L.trans (hx2.below ho (Nat.le_refl _) hS)⟩
end Go.Proofs.YtmjekdnfkgalbaaGreatDoor
