/- usherref14: a Reader in memory; a byte that is taken, but for lines that end. -/
import Derived.Test.YtlambdccmfnloaaGreatDoorKon2
import Derived.Test.YtlambdccmfnloaaGreatDoorR9
namespace Go.Proofs.YtlambdccmfnloaaGreatDoor
open Go.RowKit
set_option maxRecDepth 100000
set_option maxHeartbeats 4000000

/-- The line as the reference keeps it: behind data it is what came of the end. -/
def xL (r : CS) : Bs := if r.place = 2 then ([13, 10] : Bs).take (2 - r.left) else r.line
def xN (r : CS) : Nat := if r.place = 2 then 0 else r.left
def xCells (r : CS) (vl vb vt : Value) : Array Value := #[vb, vt, .bool r.whole, .int .i64 r.status, .int .i64 r.place, vl, .int .i64 (xN r), .int .i64 r.ends]
def XA (w : World) (g : Nat) (vl vb vt : Value) (r : CS) : Prop := O3 w 192 g (xCells r vl vb vt) vl vb vt (xL r) r.body r.trs
def XPost (w : World) (g : Nat) (vl vb vt : Value) (r : CS) (e : Ending) (w' : World) : Prop :=
  e = .returned (.tuple #[]) ∧ ∃ vl' vb' vt', XA w' g vl' vb' vt' r ∧ Moved (foot g vl vb vt) (foot g vl' vb' vt') w w'
theorem xpost {w w' : World} {T : TypeId} {g : Nat} {cs : Array Value} {vl vb vt vl' vb' vt' : Value} {L B : Bs} {F : List Fd} {r : CS} (h : KW w (foot g vl vb vt) w' T g cs vl' vb' vt' L B F)
    (hT : T = 192) (hc : cs = xCells r vl' vb' vt') (hL : L = xL r) (hB : B = r.body) (hF : F = r.trs) : XPost w g vl vb vt r (.returned (.tuple #[])) w' := by
  subst hT hc hL hB hF
  exact ⟨rfl, _, _, _, h.o, h.m⟩
theorem xL_of (r : CS) (h : r.place ≠ 2) : xL r = r.line := if_neg h
theorem xN_of (r : CS) (h : r.place ≠ 2) : xN r = r.left := if_neg h
def xC (r : CS) (vl vb vt : Value) : Array Value := #[vb, vt, .bool r.whole, .int .i64 r.status, .int .i64 r.place, vl, .int .i64 r.left, .int .i64 r.ends]
theorem xCells_of (r : CS) (vl vb vt : Value) (h : r.place ≠ 2) : xCells r vl vb vt = xC r vl vb vt := by rw [xCells, xN_of r h]; rfl
theorem xpost_of {w w' : World} {T : TypeId} {g : Nat} {cs : Array Value} {vl vb vt vl' vb' vt' : Value} {L B : Bs} {F : List Fd} {r : CS} (h : KW w (foot g vl vb vt) w' T g cs vl' vb' vt' L B F)
    (hT : T = 192) (hp : r.place ≠ 2) (hc : cs = xC r vl' vb' vt') (hL : L = r.line) (hB : B = r.body) (hF : F = r.trs) : XPost w g vl vb vt r (.returned (.tuple #[])) w' :=
  xpost h hT (by rw [hc, xCells_of r _ _ _ hp]) (by rw [hL, xL_of r hp]) hB hF
theorem xrefl {w : World} {g : Nat} {vl vb vt : Value} {r : CS} (h : XA w g vl vb vt r) (hp : r.place ≠ 2) : KW w (foot g vl vb vt) w 192 g (xC r vl vb vt) vl vb vt r.line r.body r.trs := by
  have hK := KW.refl h
  rw [xCells_of r _ _ _ hp, xL_of r hp] at hK
  exact hK
theorem xref_one_data (g : Nat) (vl vb vt : Value) (r : CS) (c : UInt8) (w : World) (h : XA w g vl vb vt r) (hi : CInv r) (hp : r.place = 1) :
    Calls Tryz.prog 207 #[.pointer (some ⟨g, 0, none⟩), .int .u8 (c.toNat : Int)] w (XPost w g vl vb vt (cByte r c)) := by
  obtain ⟨Ab, cb, rfl, hb1, hb2, hb3⟩ := h.ob.form
  have hK := xrefl h (by omega)
  obtain ⟨j0, j1, j2, j3, j4, j5, j6, j7, i0, i1, i2, i3, i4, i5, i6, i7⟩ := Blk.c8 hK.o.blk
  rw [hp] at j4
  have hd := hi.data hp
  have hb := hi.body
  have hln := hi.line (.inl hp)
  rw [if_pos hp] at hb
  by_cases hl : r.left = 1
  · rw [hl] at j6
    have HR := Lib.hid (show cByte r c = { r with body := r.body ++ [c], place := 2, left := 2 } by rw [cByte, if_pos hp, if_pos hl])
    go_enter Tryz.func207, Tryz.ntmps207
    go_wp2_with (at_builtin; refine wp_app1 rfl _ _ rfl 0 (.slice Ab r.body.length cb) _ rfl h.ob _ rfl _ rfl c rfl (by omega) (Nat.zero_le _) ?_; intro v' w2 ho2 hx; have h2 := hK.extB hx ho2; obtain ⟨A3, c3, hv3, hc31, hc32, hc33⟩ := ho2.form; rw [show (r.body ++ [c]).length = r.body.length + 1 by simp] at hv3; subst hv3; obtain ⟨k0, k1, k2, k3, k4, k5, k6, k7, n0, n1, n2, n3, n4, n5, n6, n7⟩ := Blk.c8 h2.o.blk; rw [hl] at k6; rw [hp] at k4; clear ho2 hx)
    go_end0
    exact xpost (h2.set_.set_.set_.nilL.set_) rfl (by rw [HR.out]; rfl) (by rw [HR.out]; rfl) (by rw [HR.out]) (by rw [HR.out])
  · have HR := Lib.hid (show cByte r c = { r with body := r.body ++ [c], left := r.left - 1 } by rw [cByte, if_pos hp, if_neg hl])
    have e2 : ((r.left : Int) - 1) = ((r.left - 1 : Nat) : Int) := by omega
    have hl2 : 2 ≤ r.left := by omega
    go_enter Tryz.func207, Tryz.ntmps207
    go_wp2_with (at_builtin; refine wp_app1 rfl _ _ rfl 0 (.slice Ab r.body.length cb) _ rfl h.ob _ rfl _ rfl c rfl (by omega) (Nat.zero_le _) ?_; intro v' w2 ho2 hx; have h2 := hK.extB hx ho2; obtain ⟨A3, c3, hv3, hc31, hc32, hc33⟩ := ho2.form; rw [show (r.body ++ [c]).length = r.body.length + 1 by simp] at hv3; subst hv3; obtain ⟨k0, k1, k2, k3, k4, k5, k6, k7, n0, n1, n2, n3, n4, n5, n6, n7⟩ := Blk.c8 h2.o.blk; rw [hp] at k4; clear ho2 hx)
    go_end0
    rw [HR.out]
    exact xpost_of (h2.set_.set_) rfl (by simp only; omega) rfl rfl rfl rfl
theorem xref_one_end (g : Nat) (vl vb vt : Value) (r : CS) (c : UInt8) (w : World) (h : XA w g vl vb vt r) (hi : CInv r) (hp : r.place = 2) :
    Calls Tryz.prog 207 #[.pointer (some ⟨g, 0, none⟩), .int .u8 (c.toNat : Int)] w (XPost w g vl vb vt (cByte r c)) := by
  have hln := hi.line (.inr hp)
  have hK := KW.refl h
  have hcs : xCells r vl vb vt = #[vb, vt, .bool r.whole, .int .i64 r.status, .int .i64 ((2 : Nat) : Int), vl, .int .i64 ((0 : Nat) : Int), .int .i64 r.ends] := by rw [xCells, hp, xN, if_pos hp]
  rw [hcs] at hK
  obtain ⟨j0, j1, j2, j3, j4, j5, j6, j7, i0, i1, i2, i3, i4, i5, i6, i7⟩ := Blk.c8 hK.o.blk
  have hKa := hK.alloc (o := .cells #[.int .u8 13, .int .u8 10] 5)
  obtain ⟨k0, k1, k2, k3, k4, k5, k6, k7, n0, n1, n2, n3, n4, n5, n6, n7⟩ := Blk.c8 hKa.o.blk
  rcases hi.fin hp with hl | hl
  · have hx1 : xL r = [13] := by rw [xL, if_pos hp, hl]; rfl
    rw [hx1] at hKa hK
    obtain ⟨Al, cl, hvl, -, -, -⟩ := hK.o.ol.form
    replace hvl : vl = .slice Al 1 cl := hvl
    subst hvl
    by_cases hc : c = 10
    · have hc2 : ((c.toNat : Int) == 10) = true := by rw [hc]; rfl
      have hc3 : ((c.toNat : Int) != 10) = false := by rw [hc]; rfl
      have HR := Lib.hid (show cByte r c = { r with place := 0, left := 0 } by rw [cByte, if_neg (by omega), if_pos hp, hl, hc]; rfl)
      clear hc
      go_enter Tryz.func207, Tryz.ntmps207
      go_wp2_with (at_builtin; refine wp_app1 rfl _ _ rfl 0 (.slice Al 1 cl) [13] rfl hKa.o.ol _ (by simp) _ rfl c rfl (by decide) (Nat.zero_le _) ?_; intro v' w2 ho2 hx; have h2 := hKa.extL hx ho2; obtain ⟨A3, c3, hv3, hc31, hc32, hc33⟩ := ho2.form; rw [show (([13] : Bs) ++ [c]).length = 2 by simp] at hv3; subst hv3; obtain ⟨q0, q1, q2, q3, q4, q5, q6, q7, p0, p1, p2, p3, p4, p5, p6, p7⟩ := Blk.c8 h2.o.blk; clear ho2 hx)
      go_end0
      rw [HR.out]
      exact xpost_of (h2.set_.set_.nilL.set_) rfl (by simp) (by rw [hln]; rfl) hln.symm rfl rfl
    · have hc2 := u8ne hc (n := 10) rfl
      have hc3 : ((c.toNat : Int) != 10) = true := by rw [bne, hc2]; rfl
      have HR := Lib.hid (show cByte r c = { r with status := 400 } by rw [cByte, if_neg (by omega), if_pos hp, hl]; simp [hc])
      have hh : xL { r with status := 400 } = [13] := hx1
      clear hc
      go_enter Tryz.func207, Tryz.ntmps207
      go_wp2
      go_end0
      rw [HR.out]
      exact xpost hKa.set_ rfl (by rw [xCells, xN, if_pos (by exact hp)]; simp only [hp]; rfl) hh.symm rfl rfl
  · have hx1 : xL r = [] := by rw [xL, if_pos hp, hl]; rfl
    rw [hx1] at hKa hK
    obtain ⟨Al, cl, hvl, -, -, -⟩ := hK.o.ol.form
    replace hvl : vl = .slice Al 0 cl := hvl
    subst hvl
    by_cases hc : c = 13
    · have hc2 : ((c.toNat : Int) == 13) = true := by rw [hc]; rfl
      have hc3 : ((c.toNat : Int) != 13) = false := by rw [hc]; rfl
      have HR := Lib.hid (show cByte r c = { r with left := 1 } by rw [cByte, if_neg (by omega), if_pos hp, hl, hc]; rfl)
      have hcq := hc
      have hh : xL { r with left := 1 } = [13] := by rw [xL]; simp only [hp, if_true]; rfl
      have HC := Lib.hid hcq
      clear hc hcq
      go_enter Tryz.func207, Tryz.ntmps207
      go_wp2_with (at_builtin; refine wp_app1 rfl _ _ rfl 0 (.slice Al 0 cl) [] rfl hKa.o.ol _ (by simp) _ rfl c rfl (by decide) (Nat.zero_le _) ?_; intro v' w2 ho2 hx; have h2 := hKa.extL hx ho2; obtain ⟨A3, c3, hv3, hc31, hc32, hc33⟩ := ho2.form; rw [show (([] : Bs) ++ [c]).length = 1 by simp] at hv3; subst hv3; obtain ⟨q0, q1, q2, q3, q4, q5, q6, q7, p0, p1, p2, p3, p4, p5, p6, p7⟩ := Blk.c8 h2.o.blk; clear ho2 hx)
      go_end0
      rw [HR.out]
      exact xpost h2.set_ rfl (by rw [xCells, xN, if_pos (by exact hp)]; simp only [hp]; rfl) (by rw [hh, HC.out]; rfl) rfl rfl
    · have hc2 := u8ne hc (n := 13) rfl
      have hc3 : ((c.toNat : Int) != 13) = true := by rw [bne, hc2]; rfl
      have HR := Lib.hid (show cByte r c = { r with status := 400 } by rw [cByte, if_neg (by omega), if_pos hp, hl]; simp [hc])
      have hh : xL { r with status := 400 } = [] := hx1
      clear hc
      go_enter Tryz.func207, Tryz.ntmps207
      go_wp2
      go_end0
      rw [HR.out]
      exact xpost hKa.set_ rfl (by rw [xCells, xN, if_pos (by exact hp)]; simp only [hp]; rfl) hh.symm rfl rfl
end Go.Proofs.YtlambdccmfnloaaGreatDoor
