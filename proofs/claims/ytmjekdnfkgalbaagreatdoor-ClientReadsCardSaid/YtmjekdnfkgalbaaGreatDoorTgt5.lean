/- target.Parse. -/
import Derived.Test.YtmjekdnfkgalbaaGreatDoorApp
import Derived.Deep.DeepCutAuto
namespace Go.Proofs.YtmjekdnfkgalbaaGreatDoor
open Go.RowKit
set_option maxRecDepth 100000
set_option maxHeartbeats 4000000

def httpB : Bs := [104, 116, 116, 112, 58, 47, 47]
def connB : Bs := [67, 79, 78, 78, 69, 67, 84]
def optB : Bs := [79, 80, 84, 73, 79, 78, 83]
def preB (p l : Bs) : Bool := p.isPrefixOf l
def absH (l : Bs) : Bs := fstB 63 (fstB 47 l)
def absR (l : Bs) : Bs := let r := l.drop (absH l).length; if preB [47] r then r else 47 :: r
/-- What stands behind http://. -/
def absL (l : Bs) : Tgt × Int := if hostL (absH l) then orgR ⟨2, lowL (absH l), [], []⟩ (absR l) else (tgt0, 8)
/-- A text as the target of a method. -/
def parseL (m l : Bs) : Tgt × Int :=
  if 200 < l.length then (tgt0, 9)
  else if m = connB then (if inB l 58 && hostL l then (⟨3, lowL l, [], []⟩, 0) else (tgt0, 8))
  else if m = optB ∧ l = [42] then (⟨4, [], [], []⟩, 0)
  else if preB [47] l then orgR ⟨1, [], [], []⟩ l
  else if preB httpB (lowL l) then absL (l.drop 7)
  else (tgt0, 8)
theorem idx_pos (l : Bs) (c : UInt8) : decide (0 ≤ Lib.indexByte l c) = inB l c := by
  have h := idx_in l c
  unfold inB
  cases hc : l.contains c
  · rw [hc] at h
    have : ¬ 0 ≤ Lib.indexByte l c := fun hh => by simpa using h.1 hh
    simp; omega
  · have := h.2 hc
    simp; omega
theorem lib_pre (s p : ByteArray) (w : World) :
    Calls Tryz.prog 108 #[.string s, .string p] w fun e w' => e = .returned (.bool (preB p.data.toList s.data.toList)) ∧ w = w' := by
  refine (Tryz.strings_HasPrefix s p w).mono ?_
  rintro e w' ⟨rfl, rfl⟩
  exact ⟨rfl, rfl⟩
theorem lib_ib (s : ByteArray) (c : Int) (w : World) :
    Calls Tryz.prog 142 #[.string s, .int .u8 c] w fun e w' => e = .returned (.int .i64 (Lib.indexByte s.data.toList c.toNat.toUInt8)) ∧ w = w' := by
  refine (Tryz.strings_IndexByte s c w).mono ?_
  rintro e w' ⟨rfl, rfl⟩
  exact ⟨rfl, rfl⟩
theorem ib_cases (X : ByteArray) (c : UInt8) : (Lib.indexByte X.data.toList c = -1 ∧ fstB c X.data.toList = X.data.toList) ∨ ∃ k : Nat, Lib.indexByte X.data.toList c = k ∧ k < X.size ∧ fstB c X.data.toList = X.data.toList.take k := by
  have key : ∀ l : Bs, (Lib.indexByte l c = -1 ∧ fstB c l = l) ∨ ∃ k : Nat, Lib.indexByte l c = k ∧ k < l.length ∧ fstB c l = l.take k := by
    intro l
    induction l with
    | nil => exact .inl ⟨rfl, rfl⟩
    | cons b l ih =>
      by_cases h : b = c
      · subst h
        exact .inr ⟨0, by simp [Lib.indexByte], by simp, by simp [fstB]⟩
      · have hn : (b == c) = false := by simpa using h
        have hn2 : (b != c) = true := by simpa using h
        simp only [Lib.indexByte, hn, fstB, List.takeWhile_cons, hn2, if_true] at ih ⊢
        rcases ih with ⟨h1, h2⟩ | ⟨k, h1, h2, h3⟩
        · exact .inl ⟨by simp [h1], by rw [h2]⟩
        · refine .inr ⟨k + 1, ?_, by simp; omega, by simp [h3]⟩
          rw [h1]
          simp
  have := key X.data.toList
  rw [len_data] at this
  exact this
theorem pre_len (p l : Bs) (h : preB p l = true) : p.length ≤ l.length := by
  unfold preB at h
  exact (List.isPrefixOf_iff_prefix.1 h).length_le
theorem tgR_mk (t : Tgt) (e : Int) : tgR (t, e) = .tuple #[tgtV t, .int .i64 e] := rfl
theorem lowL_len (l : Bs) : (lowL l).length = l.length := by simp [lowL]
end Go.Proofs.YtmjekdnfkgalbaaGreatDoor
