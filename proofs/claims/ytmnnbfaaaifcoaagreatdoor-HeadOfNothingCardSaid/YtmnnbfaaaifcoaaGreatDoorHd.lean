/- head: a Head in memory; New, Start, How, isDigit, All. -/
import Derived.Test.YtmnnbfaaaifcoaaGreatDoorHPl
import Derived.Test.YtmnnbfaaaifcoaaGreatDoorFld2
import Derived.Test.YtmnnbfaaaifcoaaGreatDoorFldP
import Derived.Test.YtmnnbfaaaifcoaaGreatDoorKW
import Derived.Test.YtmnnbfaaaifcoaaGreatDoorEqF
namespace Go.Proofs.YtmnnbfaaaifcoaaGreatDoor
open Go.RowKit
set_option maxRecDepth 100000
set_option maxHeartbeats 4000000

theorem Blk.c16 {w : World} {g : Nat} {t : TypeId} {a0 a1 a2 a3 a4 a5 a6 a7 a8 a9 a10 a11 a12 a13 a14 a15 : Value} (h : Blk w g t #[a0, a1, a2, a3, a4, a5, a6, a7, a8, a9, a10, a11, a12, a13, a14, a15]) : (w.cell? ⟨g, 0, none⟩ = some a0 ∧ w.cell? ⟨g, 1, none⟩ = some a1 ∧ w.cell? ⟨g, 2, none⟩ = some a2 ∧ w.cell? ⟨g, 3, none⟩ = some a3 ∧ w.cell? ⟨g, 4, none⟩ = some a4 ∧ w.cell? ⟨g, 5, none⟩ = some a5 ∧ w.cell? ⟨g, 6, none⟩ = some a6 ∧ w.cell? ⟨g, 7, none⟩ = some a7 ∧ w.cell? ⟨g, 8, none⟩ = some a8 ∧ w.cell? ⟨g, 9, none⟩ = some a9 ∧ w.cell? ⟨g, 10, none⟩ = some a10 ∧ w.cell? ⟨g, 11, none⟩ = some a11 ∧ w.cell? ⟨g, 12, none⟩ = some a12 ∧ w.cell? ⟨g, 13, none⟩ = some a13 ∧ w.cell? ⟨g, 14, none⟩ = some a14 ∧ w.cell? ⟨g, 15, none⟩ = some a15) ∧ w.frozen? ⟨g, 0, none⟩ = false ∧ w.frozen? ⟨g, 1, none⟩ = false ∧ w.frozen? ⟨g, 2, none⟩ = false ∧ w.frozen? ⟨g, 3, none⟩ = false ∧ w.frozen? ⟨g, 4, none⟩ = false ∧ w.frozen? ⟨g, 5, none⟩ = false ∧ w.frozen? ⟨g, 6, none⟩ = false ∧ w.frozen? ⟨g, 7, none⟩ = false ∧ w.frozen? ⟨g, 8, none⟩ = false ∧ w.frozen? ⟨g, 9, none⟩ = false ∧ w.frozen? ⟨g, 10, none⟩ = false ∧ w.frozen? ⟨g, 11, none⟩ = false ∧ w.frozen? ⟨g, 12, none⟩ = false ∧ w.frozen? ⟨g, 13, none⟩ = false ∧ w.frozen? ⟨g, 14, none⟩ = false ∧ w.frozen? ⟨g, 15, none⟩ = false :=
  ⟨⟨h.cell 0, h.cell 1, h.cell 2, h.cell 3, h.cell 4, h.cell 5, h.cell 6, h.cell 7, h.cell 8, h.cell 9, h.cell 10, h.cell 11, h.cell 12, h.cell 13, h.cell 14, h.cell 15⟩, h.frozen 0, h.frozen 1, h.frozen 2, h.frozen 3, h.frozen 4, h.frozen 5, h.frozen 6, h.frozen 7, h.frozen 8, h.frozen 9, h.frozen 10, h.frozen 11, h.frozen 12, h.frozen 13, h.frozen 14, h.frozen 15⟩
/-- The cells of a Head: its fields lie behind the pointer pf. -/
def hCells (h : HS) (pf : Nat) : Array Value := #[.pointer (some ⟨pf, 0, none⟩), sv h.method, .int .i64 h.tgt.form, sv h.tgt.host, sv h.tgt.path, sv h.tgt.query, .int .i64 h.minor, .bool h.begun, .int .i64 h.empty, .int .i64 h.bytes, .int .i64 h.how.kind, .int .i64 h.how.len, .bool h.how.close, .bool h.how.expect, .bool h.whole, .int .i64 h.status]
structure HK (w : World) (g pf : Nat) (v : Value) (h : HS) : Prop where
  blk : Blk w g 55 (hCells h pf)
  fa : FA w 104 pf 0 v h.flds
  ne : g ≠ pf
  no : v.ownBlock ≠ some g
/-- The program's Head at block g, with the blocks S. -/
def HR (w : World) (g : Nat) (S : Nat → Prop) (h : HS) : Prop := ∃ pf v, S = (fun k => k = g ∨ FS pf v k) ∧ HK w g pf v h
theorem HK.fr {w w' : World} {g pf : Nat} {v : Value} {h : HS} {T : Nat → Prop} (k : HK w g pf v h) (hf : Fr T w w') (hs : ∀ i, (i = g ∨ FS pf v i) → ¬ T i) : HK w' g pf v h :=
  ⟨k.blk.fr hf (hs g (.inl rfl)), k.fa.fr hf (hs pf (.inr (.inl rfl))) (fun i hi => hs i (.inr (.inr hi))), k.ne, k.no⟩
theorem HK.belowW {w w' : World} {g pf : Nat} {v : Value} {h : HS} (k : HK w g pf v h) (hb : Below w.heap.size w w') : HK w' g pf v h :=
  ⟨k.blk.belowW hb, k.fa.belowW hb, k.ne, k.no⟩
theorem HR.belowW {w w' : World} {g : Nat} {S : Nat → Prop} {h : HS} (k : HR w g S h) (hb : Below w.heap.size w w') : HR w' g S h := by
  obtain ⟨pf, v, e, k⟩ := k; exact ⟨pf, v, e, k.belowW hb⟩
theorem HR.fr {w w' : World} {g : Nat} {S T : Nat → Prop} {h : HS} (k : HR w g S h) (hf : Fr T w w') (hs : ∀ i, S i → ¬ T i) : HR w' g S h := by
  obtain ⟨pf, v, rfl, k⟩ := k; exact ⟨pf, v, rfl, k.fr hf hs⟩
theorem HR.lt {w : World} {g : Nat} {S : Nat → Prop} {h : HS} (k : HR w g S h) {i : Nat} (hi : S i) : i < w.heap.size := by
  obtain ⟨pf, v, rfl, k⟩ := k
  rcases hi with rfl | rfl | hi
  · exact k.blk.lt
  · exact k.fa.blk.lt
  · exact Own.lt2 k.fa.own hi
theorem hd_Start (g : Nat) (S : Nat → Prop) (h : HS) (w : World) (k : HR w g S h) :
    Calls Tryz.prog 16 #[.pointer (some ⟨g, 0, none⟩)] w fun e w' => e = .returned (.tuple #[sv h.method, tgtV h.tgt, .int .i64 h.minor]) ∧ Below w.heap.size w w' := by
  obtain ⟨pf, v, rfl, k⟩ := k
  have hb := k.blk
  unfold hCells at hb
  have LV : Below w.heap.size w (w.alloc (.cells #[.int .i64 0, .string ⟨#[]⟩, .string ⟨#[]⟩, .string ⟨#[]⟩] 26)) := allocW (Below.refl _ _) _
  have BV : Blk (w.alloc (.cells #[.int .i64 0, .string ⟨#[]⟩, .string ⟨#[]⟩, .string ⟨#[]⟩] 26)) w.heap.size 26 #[.int .i64 0, .string ⟨#[]⟩, .string ⟨#[]⟩, .string ⟨#[]⟩] := Blk.new' _ _ rfl _ _
  have hb := hb.alloc (.cells #[.int .i64 0, .string ⟨#[]⟩, .string ⟨#[]⟩, .string ⟨#[]⟩] 26)
  clear k
  go_enter Tryz.func16, Tryz.ntmps16
  go_wp2_with fail
  obtain ⟨V, hV⟩ : ∃ V, V = w.alloc (.cells #[.int .i64 0, .string ⟨#[]⟩, .string ⟨#[]⟩, .string ⟨#[]⟩] 26) := ⟨_, rfl⟩
  rw [← hV] at LV BV hb ⊢
  obtain ⟨g2, hg2⟩ : ∃ g2, g2 = w.heap.size := ⟨_, rfl⟩
  rw [← hg2] at BV ⊢
  have hgw : w.heap.size ≤ g2 := by omega
  clear hV hg2
  obtain ⟨⟨j0, j1, j2, j3, j4, j5, j6, j7, j8, j9, j10, j11, j12, j13, j14, j15⟩, i0, i1, i2, i3, i4, i5, i6, i7, i8, i9, i10, i11, i12, i13, i14, i15⟩ := Blk.c16 hb
  obtain ⟨k0, k1, k2, k3, l0, l1, l2, l3⟩ := BV.c4
  clear hb BV j0 j7 j8 j9 j10 j11 j12 j13 j14 j15 i0 i7 i8 i9 i10 i11 i12 i13 i14 i15
  go_region
  go_wp2
  refine bodyPost_ret (v := .tuple #[sv h.method, tgtV h.tgt, .int .i64 h.minor]) (by simp [results, Tryz.results16, go_sem, k0, k1, k2, k3]) rfl ⟨rfl, ?_⟩
  refine Below.drew ?_
  repeat refine setW ?_ hgw _
  exact LV
theorem hd_How (g : Nat) (S : Nat → Prop) (h : HS) (w : World) (k : HR w g S h) :
    Calls Tryz.prog 17 #[.pointer (some ⟨g, 0, none⟩)] w fun e w' => e = .returned (howV h.how) ∧ Below w.heap.size w w' := by
  obtain ⟨pf, v, rfl, k⟩ := k
  have hb := k.blk
  unfold hCells at hb
  have LV : Below w.heap.size w (w.alloc (.cells #[.int .i64 0, .int .i64 0, .bool false, .bool false] 30)) := allocW (Below.refl _ _) _
  have BV : Blk (w.alloc (.cells #[.int .i64 0, .int .i64 0, .bool false, .bool false] 30)) w.heap.size 30 #[.int .i64 0, .int .i64 0, .bool false, .bool false] := Blk.new' _ _ rfl _ _
  have hb := hb.alloc (.cells #[.int .i64 0, .int .i64 0, .bool false, .bool false] 30)
  obtain ⟨⟨j0, j1, j2, j3, j4, j5, j6, j7, j8, j9, j10, j11, j12, j13, j14, j15⟩, i0, i1, i2, i3, i4, i5, i6, i7, i8, i9, i10, i11, i12, i13, i14, i15⟩ := Blk.c16 hb
  obtain ⟨k0, k1, k2, k3, l0, l1, l2, l3⟩ := BV.c4
  clear hb k BV j0 j1 j2 j3 j4 j5 j6 j7 j8 j9 j14 j15 i0 i1 i2 i3 i4 i5 i6 i7 i8 i9 i14 i15
  go_enter Tryz.func17, Tryz.ntmps17
  go_wp2_with fail
  refine bodyPost_ret (v := howV h.how) (by simp [results, Tryz.results17, go_sem]) rfl ⟨rfl, ?_⟩
  exact allocW (Below.refl _ _) _
theorem hd_isDigit (b : UInt8) (w : World) :
    Calls Tryz.prog 71 #[.int .u8 (b.toNat : Int)] w fun e w' => e = .returned (.bool (digC b)) ∧ w = w' := by
  have HR := Lib.hid (show digC b = decide (48 ≤ b.toNat ∧ b.toNat ≤ 57) from rfl)
  by_cases h1 : 48 ≤ b.toNat
  · by_cases h2 : b.toNat ≤ 57
    · go_enter Tryz.func71, Tryz.ntmps71
      go_wp2
      go_ret
      exact ⟨retB (by rw [HR.out]; simp [h1, h2]; omega), rfl⟩
    · go_enter Tryz.func71, Tryz.ntmps71
      go_wp2
      go_ret
      exact ⟨retB (by rw [HR.out]; simp [h2]; omega), rfl⟩
  · go_enter Tryz.func71, Tryz.ntmps71
    go_wp2
    go_ret
    exact ⟨retB (by rw [HR.out]; simp [h1]), rfl⟩
theorem slc_Clone (A : Option Addr) (c : Nat) (l : List Fd) (w : World) (h : Rd w w.heap.size 2 A l.length (fcells l)) (hl : l.length ≤ 100000) :
    Calls Tryz.prog 58 #[.slice A l.length c] w fun e w' => (∃ v, e = .returned v ∧ OF w' w.heap.size v l) ∧ Below w.heap.size w w' := by
  cases A with
  | none =>
    have h0 : l.length = 0 := by
      rcases Nat.eq_zero_or_pos l.length with h0 | h0
      · exact h0
      · obtain ⟨b, o, e, -⟩ := h.2 h0; cases e
    obtain rfl : l = [] := List.eq_nil_of_length_eq_zero h0
    have hq : ∀ (w : World), (binOp .eql 39 (.slice none 0 c) (.slice none 0 0)).run Tryz.prog w = .ok (.bool true) w := fun w => by kernel_rfl
    go_enter Tryz.func58, Tryz.ntmps58
    go_wp2
    go_ret
    exact ⟨⟨_, rfl, OF.nil _ _⟩, Below.refl _ _⟩
  | some a =>
    have hq : ∀ (w : World), (binOp .eql 39 (.slice (some a) l.length c) (.slice none 0 0)).run Tryz.prog w = .ok (.bool false) w := fun w => by kernel_rfl
    go_enter Tryz.func58, Tryz.ntmps58
    have hown0 : OF (w.alloc (.cells #[] 49)) w.heap.size (.slice (some ⟨w.heap.size, 0, none⟩) 0 0) [] := Own.lit w _ rfl _ (Nat.le_refl _) _ 2 0 [] rfl (by decide)
    have LA := allocW (Below.refl w.heap.size w) (.cells #[] 49)
    go_wp2_with (at_builtin; refine wp_appF rfl _ _ rfl w.heap.size (.slice (some ⟨w.heap.size, 0, none⟩) 0 0) [] rfl hown0 (Below.refl _ _) (some a) l.length c _ rfl l rfl (h.alloc (Nat.le_refl _) _) (by simp; omega) LA.size ?_; intro v' w2 ho2 hx)
    go_ret
    exact ⟨⟨_, rfl, by simpa using ho2⟩, LA.trans (hx.below hown0 (Nat.le_refl _) LA.size)⟩
theorem fld_All (g : Nat) (l : List Fd) (w : World) (hF : FR w 104 g l) (hl : l.length ≤ 100000) :
    Calls Tryz.prog 24 #[.pointer (some ⟨g, 0, none⟩)] w fun e w' => (∃ v, e = .returned v ∧ OF w' w.heap.size v l) ∧ Below w.heap.size w w' := by
  obtain ⟨A, c, hB, hc, hA⟩ := hF
  obtain ⟨j0, i0⟩ := hB.c1
  go_enter Tryz.func24, Tryz.ntmps24
  go_wp2_with fail
  refine (slc_Clone A c l w hA hl).mono ?_
  rintro e w1 ⟨⟨v, rfl, ho⟩, L⟩
  go_wp2
  go_ret
  exact ⟨⟨_, rfl, ho⟩, L⟩
theorem hd_New (w : World) :
    Calls Tryz.prog 21 #[] w fun e w' => (∃ g S, e = .returned (.pointer (some ⟨g, 0, none⟩)) ∧ HR w' g S hs0 ∧ (∀ i, S i → w.heap.size ≤ i)) ∧ Below w.heap.size w w' := by
  go_enter Tryz.func21, Tryz.ntmps21
  go_wp2_with fail
  refine (fld_Of 0 0 none [] w (Rd.nil _ _ _ _) (fun f hf => by cases hf) (by decide)).mono ?_
  rintro e w1 ⟨⟨pf, v, rfl, hF⟩, L⟩
  go_wp2
  go_ret
  have hno : v.ownBlock ≠ some w1.heap.size := fun h => Nat.lt_irrefl _ (Own.lt2 hF.own h)
  have hne : w1.heap.size ≠ pf := fun h => Nat.lt_irrefl _ (h ▸ hF.blk.lt)
  refine ⟨⟨_, _, rfl, ⟨pf, v, rfl, ⟨Blk.new' _ _ rfl _ _, ⟨hF.blk.alloc _, Own.base_le (Own.alloc hF.own _) (Nat.zero_le _), Nat.zero_le _, hF.ne⟩, hne, hno⟩⟩, fun i hi => ?_⟩, allocW L _⟩
  rcases hi with rfl | rfl | hi
  · exact L.size
  · exact hF.lo
  · exact (hF.own.lt i hi).1
end Go.Proofs.YtmnnbfaaaifcoaaGreatDoor
