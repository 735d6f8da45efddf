/- strconv.ParseInt to base 16 on up to twelve hexadecimal digits; ascii.Hex. -/
import Derived.Test.YtlambdccmfnloaaDoorAscii
import Derived.Test.YtlambdccmfnloaaDoorPlain
import Derived.Deep.CutRange
import Derived.Deep.DeepCutAuto
namespace Go.Proofs.YtlambdccmfnloaaDoor
open Go.RowKit
set_option maxRecDepth 100000
set_option maxHeartbeats 2000000

theorem or_lo (b : UInt8) (h : 97 ≤ b.toNat ∧ b.toNat ≤ 122) : (b.toNat ||| 32) = b.toNat := by
  have : ∀ x : Fin 256, 97 ≤ x.val ∧ x.val ≤ 122 → (x.val ||| 32) = x.val := by decide +kernel
  exact this ⟨b.toNat, b.toNat_lt⟩ h
theorem or_up (b : UInt8) (h : 65 ≤ b.toNat ∧ b.toNat ≤ 90) : (b.toNat ||| 32) = b.toNat + 32 := by
  have : ∀ x : Fin 256, 65 ≤ x.val ∧ x.val ≤ 90 → (x.val ||| 32) = x.val + 32 := by decide +kernel
  exact this ⟨b.toNat, b.toNat_lt⟩ h
theorem or_bits (b : UInt8) : bits BinOp.or IntKind.u8 (b.toNat : Int) 32 = ((b.toNat ||| 32 : Nat) : Int) := by
  have : ∀ x : Fin 256, bits BinOp.or IntKind.u8 (x.val : Int) 32 = ((x.val ||| 32 : Nat) : Int) := by decide +kernel
  exact this ⟨b.toNat, b.toNat_lt⟩
theorem hex_class (b : UInt8) (h : hexS.contains b = true) : (48 ≤ b.toNat ∧ b.toNat ≤ 57 ∧ digB b.toNat = (b.toNat : Int) - 48) ∨ (97 ≤ b.toNat ∧ b.toNat ≤ 102 ∧ digB b.toNat = (b.toNat : Int) - 87) ∨ (65 ≤ b.toNat ∧ b.toNat ≤ 70 ∧ digB b.toNat = (b.toNat : Int) - 55) := by
  have : ∀ x : Fin 256, hexS.contains (UInt8.ofNat x.val) = true → (48 ≤ (UInt8.ofNat x.val).toNat ∧ (UInt8.ofNat x.val).toNat ≤ 57 ∧ digB (UInt8.ofNat x.val).toNat = ((UInt8.ofNat x.val).toNat : Int) - 48) ∨ (97 ≤ (UInt8.ofNat x.val).toNat ∧ (UInt8.ofNat x.val).toNat ≤ 102 ∧ digB (UInt8.ofNat x.val).toNat = ((UInt8.ofNat x.val).toNat : Int) - 87) ∨ (65 ≤ (UInt8.ofNat x.val).toNat ∧ (UInt8.ofNat x.val).toNat ≤ 70 ∧ digB (UInt8.ofNat x.val).toNat = ((UInt8.ofNat x.val).toNat : Int) - 55) := by decide +kernel
  have h' := this ⟨b.toNat, b.toNat_lt⟩
  have e : UInt8.ofNat b.toNat = b := by simp
  rw [show ((⟨b.toNat, b.toNat_lt⟩ : Fin 256).val) = b.toNat from rfl, e] at h'
  exact h' h

end Go.Proofs.YtlambdccmfnloaaDoor
