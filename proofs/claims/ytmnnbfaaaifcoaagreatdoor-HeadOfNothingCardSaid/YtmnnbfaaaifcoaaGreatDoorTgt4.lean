/- target.origin. -/
import Derived.Test.YtmnnbfaaaifcoaaGreatDoorTgt3
namespace Go.Proofs.YtmnnbfaaaifcoaaGreatDoor
open Go.RowKit
set_option maxRecDepth 100000
set_option maxHeartbeats 4000000

/-- A target. -/
structure Tgt where
  form : Int
  host : Bs
  path : Bs
  query : Bs
deriving DecidableEq
def tgt0 : Tgt := ⟨0, [], [], []⟩
abbrev tgtV (t : Tgt) : Value := .agg #[.int .i64 t.form, sv t.host, sv t.path, sv t.query]
/-- A target and an error. -/
def tgR (r : Tgt × Int) : Value := .tuple #[tgtV r.1, .int .i64 r.2]
def plainS : Bs := [45, 46, 95, 126, 33, 36, 38, 39, 40, 41, 42, 43, 44, 59, 61, 58, 64, 47]
def orgS : Bs := [45, 46, 95, 126, 33, 36, 38, 39, 40, 41, 42, 43, 44, 59, 61, 58, 64, 47, 37, 63]
def originL (s : Bs) : Option Bs := if allOf orgS s then (decodeL (fstB 63 s)).bind cleanL else none
def orgR (t : Tgt) (s : Bs) : Tgt × Int :=
  match originL s with
  | none => (tgt0, 8)
  | some p => ({ t with path := p, query := sndB 63 s }, 0)
theorem size_mk' (l : Bs) : (⟨l.toArray⟩ : ByteArray).size = l.length := rfl
theorem clnR_none : clnR none = .tuple #[sv [], .bool false] := rfl
theorem clnR_some (l : Bs) : clnR (some l) = .tuple #[sv l, .bool true] := rfl
theorem tgt_origin (t : Tgt) (s : ByteArray) (w : World) (hs : s.size < 4294967281) (hm : ML w) :
    Calls Tryz.prog 110 #[tgtV t, .string s] w fun e w' => e = .returned (tgR (orgR t s.data.toList)) ∧ Below w.heap.size w w' := by
  have h1 := fstB_len 63 s.data.toList
  have h2 := sndB_len 63 s.data.toList
  rw [len_data] at h1 h2
  have hs' : s.size ≤ maxLen := by unfold maxLen; omega
  go_enter Tryz.func110, Tryz.ntmps110
  go_wp2_with fail
  refine (tgt_isOf s _ _ hs').mono ?_
  rw [show (⟨#[45, 46, 95, 126, 33, 36, 38, 39, 40, 41, 42, 43, 44, 59, 61, 58, 64, 47, 37, 63]⟩ : ByteArray).data.toList = orgS from rfl]
  cases hA : allOf orgS s.data.toList
  · have HR := Lib.hid (show orgR t s.data.toList = (tgt0, 8) by rw [orgR, originL, hA]; rfl)
    clear hA
    rintro e w1 ⟨rfl, rfl⟩
    go_wp2
    refine bodyPost_ret (v := .tuple #[tgtV tgt0, .int .i64 8]) (by simp [results, Tryz.results110, go_sem, tgt0]) rfl ⟨by rw [HR.out]; rfl, allocW (allocW (Below.refl _ _) _) _⟩
  · rintro e w1 ⟨rfl, rfl⟩
    go_wp2_with fail
    obtain ⟨W2, hW⟩ : ∃ W2, W2 = ((w.alloc (.cells #[.int .i64 t.form, sv t.host, sv t.path, sv t.query] 26)).alloc (.cells #[.int .i64 0, .string ⟨#[]⟩, .string ⟨#[]⟩, .string ⟨#[]⟩] 26)) := ⟨_, rfl⟩
    rw [← hW]
    have B0 : Blk W2 w.heap.size 26 #[.int .i64 t.form, sv t.host, sv t.path, sv t.query] := by rw [hW]; exact (Blk.new' _ _ rfl _ _).alloc _
    have B1 : Blk W2 (w.heap.size + 1) 26 #[.int .i64 0, .string ⟨#[]⟩, .string ⟨#[]⟩, .string ⟨#[]⟩] := by rw [hW]; exact Blk.new' _ _ (by simp) _ _
    have LW : Below w.heap.size w W2 := by rw [hW]; exact allocW (allocW (Below.refl _ _) _) _
    have hm2 := hm.below LW (Nat.le_refl _)
    clear hW hm
    refine (lib_cut1 s 63 W2 hs hm2).mono ?_
    rintro e w1 ⟨rfl, L1⟩
    have hm3 := hm2.below L1 (Nat.le_refl _)
    go_wp2_with fail
    refine (tgt_Decode ⟨(fstB 63 s.data.toList).toArray⟩ w1 (Nat.lt_of_le_of_lt h1 hs)).mono ?_
    rw [show (⟨(fstB 63 s.data.toList).toArray⟩ : ByteArray).data.toList = fstB 63 s.data.toList from rfl]
    cases hD : decodeL (fstB 63 s.data.toList) with
    | none =>
      have HR := Lib.hid (show orgR t s.data.toList = (tgt0, 8) by rw [orgR, originL, hA, if_pos rfl, hD]; rfl)
      clear hA hD
      rintro e w2 ⟨rfl, L2⟩
      obtain ⟨j0, j1, j2, j3, i0, i1, i2, i3⟩ := ((B1.belowW L1).belowW L2).c4
      rw [decR_none]
      have LL := stepW (stepW LW L1) L2
      go_wp2
      refine bodyPost_ret (v := .tuple #[tgtV tgt0, .int .i64 8]) (by simp [results, Tryz.results110, go_sem, tgt0, j0, j1, j2, j3]) rfl ⟨by rw [HR.out]; rfl, ?_⟩
      repeat refine setW ?_ (by simp) _
      exact LL
    | some d =>
      have hdl := decodeL_len _ _ (Nat.le_refl _) d hD
      rintro e w2 ⟨rfl, L2⟩
      rw [decR_some]
      have hm4 := hm3.below L2 (Nat.le_refl _)
      go_wp2_with fail
      refine (tgt_Clean ⟨d.toArray⟩ w2 (Nat.lt_of_le_of_lt (Nat.le_trans hdl h1) hs) hm4).mono ?_
      rw [show (⟨d.toArray⟩ : ByteArray).data.toList = d from rfl]
      cases hC : cleanL d with
      | none =>
        have HR := Lib.hid (show orgR t s.data.toList = (tgt0, 8) by rw [orgR, originL, hA, if_pos rfl, hD, Option.bind_some, hC])
        clear hA hD hC hdl
        rintro e w3 ⟨rfl, L3⟩
        obtain ⟨j0, j1, j2, j3, i0, i1, i2, i3⟩ := (((B1.belowW L1).belowW L2).belowW L3).c4
        have LL := stepW (stepW (stepW LW L1) L2) L3
        rw [clnR_none]
        go_wp2
        refine bodyPost_ret (v := .tuple #[tgtV tgt0, .int .i64 8]) (by simp [results, Tryz.results110, go_sem, tgt0, j0, j1, j2, j3]) rfl ⟨by rw [HR.out]; rfl, ?_⟩
        repeat refine setW ?_ (by simp) _
        exact LL
      | some p =>
        have HR := Lib.hid (show orgR t s.data.toList = ({ t with path := p, query := sndB 63 s.data.toList }, 0) by rw [orgR, originL, hA, if_pos rfl, hD, Option.bind_some, hC])
        clear hA hD hC hdl
        rintro e w3 ⟨rfl, L3⟩
        obtain ⟨j0, j1, j2, j3, i0, i1, i2, i3⟩ := (((B1.belowW L1).belowW L2).belowW L3).c4
        obtain ⟨k0, k1, k2, k3, g0, g1, g2, g3⟩ := (((B0.belowW L1).belowW L2).belowW L3).c4
        have LL := stepW (stepW (stepW LW L1) L2) L3
        rw [clnR_some]
        go_wp2
        refine bodyPost_ret (v := .tuple #[tgtV { t with path := p, query := sndB 63 s.data.toList }, .int .i64 0]) (by simp [results, Tryz.results110, go_sem, j0, j1, j2, j3]) rfl ⟨by rw [HR.out]; rfl, ?_⟩
        repeat refine setW ?_ (by simp) _
        exact LL
end Go.Proofs.YtmnnbfaaaifcoaaGreatDoor
