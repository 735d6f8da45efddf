/- chunk: a Reader in memory; a byte that is taken. -/
import Derived.Test.YtlambdccmfnloaaGreatDoorFPl
import Derived.Test.YtlambdccmfnloaaGreatDoorNum
namespace Go.Proofs.YtlambdccmfnloaaGreatDoor
open Go.RowKit
set_option maxRecDepth 100000
set_option maxHeartbeats 4000000

def kCells (r : CS) (vl vb vt : Value) : Array Value := #[.int .i64 r.place, vl, .int .i64 r.left, vb, vt, .int .i64 r.ends, .bool r.whole, .int .i64 r.status]
def KA (w : World) (g : Nat) (vl vb vt : Value) (r : CS) : Prop := O3 w 178 g (kCells r vl vb vt) vl vb vt r.line r.body r.trs
def KPost (w : World) (g : Nat) (vl vb vt : Value) (r : CS) (e : Ending) (w' : World) : Prop :=
  e = .returned (.tuple #[]) ∧ ∃ vl' vb' vt', KA w' g vl' vb' vt' r ∧ Moved (foot g vl vb vt) (foot g vl' vb' vt') w w'
theorem kpost {w w' : World} {T : TypeId} {g : Nat} {cs : Array Value} {vl vb vt vl' vb' vt' : Value} {L B : Bs} {F : List Fd} {r : CS} (h : KW w (foot g vl vb vt) w' T g cs vl' vb' vt' L B F)
    (hT : T = 178) (hc : cs = kCells r vl' vb' vt') (hL : L = r.line) (hB : B = r.body) (hF : F = r.trs) : KPost w g vl vb vt r (.returned (.tuple #[])) w' := by
  subst hT hc hL hB hF
  exact ⟨rfl, _, _, _, h.o, h.m⟩
theorem chk_takes_data (g : Nat) (vl vb vt : Value) (r : CS) (c : UInt8) (w : World) (h : KA w g vl vb vt r) (hi : CInv r) (hp : r.place = 1) :
    Calls Tryz.prog 144 #[.pointer (some ⟨g, 0, none⟩), .int .u8 (c.toNat : Int)] w (KPost w g vl vb vt (cByte r c)) := by
  obtain ⟨j0, j1, j2, j3, j4, j5, j6, j7, i0, i1, i2, i3, i4, i5, i6, i7⟩ := Blk.c8 h.blk
  rw [hp] at j0
  have hd := hi.data hp
  have hb := hi.body
  rw [if_pos hp] at hb
  have hK := KW.refl h
  obtain ⟨Ab, cb, rfl, hb1, hb2, hb3⟩ := h.ob.form
  by_cases hl : r.left = 1
  · rw [hl] at j2
    have HR := Lib.hid (show cByte r c = { r with body := r.body ++ [c], place := 2, left := 2 } by rw [cByte, if_pos hp, if_pos hl])
    go_enter Tryz.func144, Tryz.ntmps144
    go_wp2_with (at_builtin; refine wp_app1 rfl _ _ rfl 0 (.slice Ab r.body.length cb) _ rfl h.ob _ rfl _ rfl c rfl (by omega) (Nat.zero_le _) ?_; intro v' w2 ho2 hx; have h2 := hK.extB hx ho2; obtain ⟨A3, c3, hv3, hc31, hc32, hc33⟩ := ho2.form; rw [show (r.body ++ [c]).length = r.body.length + 1 by simp] at hv3; subst hv3; obtain ⟨k0, k1, k2, k3, k4, k5, k6, k7, n0, n1, n2, n3, n4, n5, n6, n7⟩ := Blk.c8 h2.o.blk; rw [hl] at k2; rw [hp] at k0; clear ho2 hx)
    go_end0
    exact kpost (h2.set_.set_.set_.set_) rfl (by rw [HR.out]; rfl) (by rw [HR.out]) (by rw [HR.out]) (by rw [HR.out])
  · have HR := Lib.hid (show cByte r c = { r with body := r.body ++ [c], left := r.left - 1 } by rw [cByte, if_pos hp, if_neg hl])
    have e2 : ((r.left : Int) - 1) = ((r.left - 1 : Nat) : Int) := by omega
    have hl2 : 2 ≤ r.left := by omega
    go_enter Tryz.func144, Tryz.ntmps144
    go_wp2_with (at_builtin; refine wp_app1 rfl _ _ rfl 0 (.slice Ab r.body.length cb) _ rfl h.ob _ rfl _ rfl c rfl (by omega) (Nat.zero_le _) ?_; intro v' w2 ho2 hx; have h2 := hK.extB hx ho2; obtain ⟨A3, c3, hv3, hc31, hc32, hc33⟩ := ho2.form; rw [show (r.body ++ [c]).length = r.body.length + 1 by simp] at hv3; subst hv3; obtain ⟨k0, k1, k2, k3, k4, k5, k6, k7, n0, n1, n2, n3, n4, n5, n6, n7⟩ := Blk.c8 h2.o.blk; rw [hp] at k0; clear ho2 hx)
    go_end0
    exact kpost (h2.set_.set_) rfl (by rw [HR.out]; rfl) (by rw [HR.out]) (by rw [HR.out]) (by rw [HR.out])
theorem u8ne {c d : UInt8} (h : c ≠ d) {n : Int} (hn : (d.toNat : Int) = n) : ((c.toNat : Int) == n) = false := by
  rw [Bool.eq_false_iff]
  intro h2
  rw [beq_iff_eq] at h2
  exact h (u8inj (by omega))
theorem arr_size : (Tryz.prog.info? 5).map (·.size) = some 1 := by kernel_rfl
@[go_sem high] theorem run_index_arr (a b : Value) (i : Int) (w : World) (h : 0 ≤ i ∧ i < 2) :
    (Instr.index 197 (.agg #[a, b]) (.int .i64 i)).run Tryz.prog w = .ok (if i = 0 then a else b) w := by
  obtain ⟨j, hj, hjs⟩ := Option.map_eq_some_iff.1 arr_size
  have hu : Tryz.prog.underlying 197 = some (.array 2 5) := Tryz.underlying197
  have : i = 0 ∨ i = 1 := by omega
  rcases this with rfl | rfl
  · simp [Instr.index, run_underlying hu, asIntOf, go_sem, sizeOf, typeInfo, hj, hjs, part, typeInfo]
  · simp [Instr.index, run_underlying hu, asIntOf, go_sem, sizeOf, typeInfo, hj, hjs, part, typeInfo]
theorem chk_takes_end (g : Nat) (vl vb vt : Value) (r : CS) (c : UInt8) (w : World) (h : KA w g vl vb vt r) (hi : CInv r) (hp : r.place = 2) :
    Calls Tryz.prog 144 #[.pointer (some ⟨g, 0, none⟩), .int .u8 (c.toNat : Int)] w (KPost w g vl vb vt (cByte r c)) := by
  obtain ⟨j0, j1, j2, j3, j4, j5, j6, j7, i0, i1, i2, i3, i4, i5, i6, i7⟩ := Blk.c8 h.blk
  rw [hp] at j0
  have hK := KW.refl h
  rcases hi.fin hp with hl | hl
  · rw [hl] at j2
    by_cases hc : c = 10
    · subst hc
      have HR := Lib.hid (show cByte r 10 = { r with place := 0, left := 0 } by rw [cByte, if_neg (by omega), if_pos hp, hl]; rfl)
      go_enter Tryz.func144, Tryz.ntmps144
      go_wp2
      go_end0
      exact kpost (hK.set_.set_) rfl (by rw [HR.out]; rfl) (by rw [HR.out]) (by rw [HR.out]) (by rw [HR.out])
    · have HR := Lib.hid (show cByte r c = { r with status := 400 } by rw [cByte, if_neg (by omega), if_pos hp, hl]; simp [hc])
      have hc2 := u8ne hc (n := 10) rfl
      go_enter Tryz.func144, Tryz.ntmps144
      go_wp2
      go_end0
      exact kpost (hK.set_) rfl (by rw [HR.out]; rfl) (by rw [HR.out]) (by rw [HR.out]) (by rw [HR.out])
  · rw [hl] at j2
    by_cases hc : c = 13
    · subst hc
      have HR := Lib.hid (show cByte r 13 = { r with left := 1 } by rw [cByte, if_neg (by omega), if_pos hp, hl]; rfl)
      go_enter Tryz.func144, Tryz.ntmps144
      go_wp2
      go_end0
      exact kpost (hK.set_) rfl (by rw [HR.out]; rfl) (by rw [HR.out]) (by rw [HR.out]) (by rw [HR.out])
    · have HR := Lib.hid (show cByte r c = { r with status := 400 } by rw [cByte, if_neg (by omega), if_pos hp, hl]; simp [hc])
      have hc2 := u8ne hc (n := 13) rfl
      go_enter Tryz.func144, Tryz.ntmps144
      go_wp2
      go_end0
      exact kpost (hK.set_) rfl (by rw [HR.out]; rfl) (by rw [HR.out]) (by rw [HR.out]) (by rw [HR.out])
/-- A line is refused that has more than so many bytes. -/
def cLim (r : CS) (n : Nat) : CS := if r.place = 0 ∧ 64 < n then { r with status := 400 } else if r.place = 3 ∧ (256 < n ∨ 512 < r.ends + n) then { r with status := 431 } else r
theorem chk_limits (g : Nat) (vl vb vt : Value) (r : CS) (n : Nat) (w : World) (h : KA w g vl vb vt r) (hn : n ≤ 100000) (he : r.ends ≤ 1000) :
    Calls Tryz.prog 223 #[.pointer (some ⟨g, 0, none⟩), .int .i64 (n : Int)] w (KPost w g vl vb vt (cLim r n)) := by
  obtain ⟨j0, j1, j2, j3, j4, j5, j6, j7, i0, i1, i2, i3, i4, i5, i6, i7⟩ := Blk.c8 h.blk
  have hK := KW.refl h
  by_cases hp : r.place = 0
  · rw [hp] at j0
    by_cases h1 : 64 < n
    · have HR := Lib.hid (show cLim r n = { r with status := 400 } by rw [cLim, if_pos ⟨hp, h1⟩])
      go_enter Tryz.func223, Tryz.ntmps223
      go_wp2
      go_end0
      exact kpost hK.set_ rfl (by rw [HR.out]; rfl) (by rw [HR.out]) (by rw [HR.out]) (by rw [HR.out])
    · have HR := Lib.hid (show cLim r n = r by rw [cLim, if_neg (fun h => h1 h.2), if_neg (fun h => by omega)])
      have h1 : n ≤ 64 := by omega
      go_enter Tryz.func223, Tryz.ntmps223
      go_wp2
      go_end0
      exact kpost hK rfl (by rw [HR.out]) (by rw [HR.out]) (by rw [HR.out]) (by rw [HR.out])
  · have hp0 : ((r.place : Int) == 0) = false := by simpa using hp
    by_cases hp3 : r.place = 3
    · rw [hp3] at j0
      by_cases h1 : 256 < n
      · have HR := Lib.hid (show cLim r n = { r with status := 431 } by rw [cLim, if_neg (fun h => hp h.1), if_pos ⟨hp3, .inl h1⟩])
        go_enter Tryz.func223, Tryz.ntmps223
        go_wp2
        go_end0
        exact kpost hK.set_ rfl (by rw [HR.out]; rfl) (by rw [HR.out]) (by rw [HR.out]) (by rw [HR.out])
      · by_cases h2 : 512 < r.ends + n
        · have HR := Lib.hid (show cLim r n = { r with status := 431 } by rw [cLim, if_neg (fun h => hp h.1), if_pos ⟨hp3, .inr h2⟩])
          have h1 : n ≤ 256 := by omega
          go_enter Tryz.func223, Tryz.ntmps223
          go_wp2
          go_end0
          exact kpost hK.set_ rfl (by rw [HR.out]; rfl) (by rw [HR.out]) (by rw [HR.out]) (by rw [HR.out])
        · have HR := Lib.hid (show cLim r n = r by rw [cLim, if_neg (fun h => hp h.1), if_neg (fun h => by omega)])
          have h1 : n ≤ 256 := by omega
          have h2 : r.ends + n ≤ 512 := by omega
          go_enter Tryz.func223, Tryz.ntmps223
          go_wp2
          go_end0
          exact kpost hK rfl (by rw [HR.out]) (by rw [HR.out]) (by rw [HR.out]) (by rw [HR.out])
    · have HR := Lib.hid (show cLim r n = r by rw [cLim, if_neg (fun h => hp h.1), if_neg (fun h => by omega)])
      have hp1 : ((r.place : Int) == 3) = false := by simp; omega
      go_enter Tryz.func223, Tryz.ntmps223
      go_wp2
      go_end0
      exact kpost hK rfl (by rw [HR.out]) (by rw [HR.out]) (by rw [HR.out]) (by rw [HR.out])
end Go.Proofs.YtlambdccmfnloaaGreatDoor
