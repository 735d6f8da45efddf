/- usherref14: a line's byte; Feed. -/
import Derived.Test.YtfapnppgbhlidaaGreatDoorRKon2
import Derived.Test.YtfapnppgbhlidaaGreatDoorKon5
namespace Go.Proofs.YtfapnppgbhlidaaGreatDoor
open Go.RowKit
set_option maxRecDepth 100000
set_option maxHeartbeats 4000000

theorem xpost_go {w W : World} {g : Nat} {cs : Array Value} {vl vb vt vl' vb' vt' : Value} {L B : Bs} {F : List Fd} {r : CS} {e : Ending} {w' : World} (h : KW w (foot g vl vb vt) W 28 g cs vl' vb' vt' L B F)
    (hp : XPost W g vl' vb' vt' r e w') : XPost w g vl vb vt r e w' := by
  obtain ⟨he, a, b, c, h1, h2⟩ := hp
  exact ⟨he, a, b, c, h1, h.m.trans h2⟩
theorem xa_of {w W : World} {S : Nat → Prop} {g : Nat} {cs : Array Value} {vl vb vt : Value} {L B : Bs} {F : List Fd} {r : CS} (h : KW w S W 28 g cs vl vb vt L B F) (hp : r.place ≠ 2)
    (hc : cs = xC r vl vb vt) (hL : L = r.line) (hB : B = r.body) (hF : F = r.trs) : XA W g vl vb vt r := by
  have h1 := h.o
  rw [hc, hL, hB, hF] at h1
  rw [XA, xCells_of r _ _ _ hp, xL_of r hp]
  exact h1
theorem xref_one_app (g : Nat) (vl vb vt : Value) (r : CS) (c : UInt8) (w : World) (h : XA w g vl vb vt r) (hi : CInv r) (hp : r.place = 0 ∨ r.place = 3) (hc : c ≠ 10) :
    Calls Tryz.prog 30 #[.pointer (some ⟨g, 0, none⟩), .int .u8 (c.toNat : Int)] w (XPost w g vl vb vt (cByte r c)) := by
  have hK := xrefl h (by omega)
  obtain ⟨Al, cl, hvl, hb1, hb2, hb3⟩ := hK.o.ol.form
  subst hvl
  obtain ⟨j0, j1, j2, j3, j4, j5, j6, j7, i0, i1, i2, i3, i4, i5, i6, i7⟩ := Blk.c8 hK.o.blk
  have hlen := hi.len
  have he := hi.ends2
  have hc1 := u8ne hc (n := 10) rfl
  have hE0 := (cByte_line r c (by omega) (by omega)).trans (cLine_lim r c hc)
  by_cases h13 : c = 13
  · have hc2 : ((c.toNat : Int) == 13) = true := by rw [h13]; rfl
    have HE := Lib.hid (show cByte r c = cLim { r with line := r.line ++ [c] } r.line.length by rw [hE0, if_pos h13])
    clear hE0 h13 hc
    rcases hp with hp | hp
    · have HP := Lib.hid hp
      rw [hp] at j4
      by_cases h1 : 64 < r.line.length
      · have HR := Lib.hid (show cByte r c = { r with line := r.line ++ [c], status := 400 } by rw [HE.out, cLim, if_pos ⟨hp, h1⟩])
        clear hp
        go_enter Tryz.func30, Tryz.ntmps30
        go_wp2_with (at_builtin; refine wp_app1 rfl _ _ rfl 0 (.slice Al r.line.length cl) _ rfl hK.o.ol _ rfl _ rfl c rfl (by omega) (Nat.zero_le _) ?_; intro v' w2 ho2 hx; have h2 := hK.extL hx ho2; obtain ⟨A3, c3, hv3, hc31, hc32, hc33⟩ := ho2.form; rw [show (r.line ++ [c]).length = r.line.length + 1 by simp] at hv3; subst hv3; obtain ⟨k0, k1, k2, k3, k4, k5, k6, k7, n0, n1, n2, n3, n4, n5, n6, n7⟩ := Blk.c8 h2.o.blk; rw [HP.out] at k4; clear ho2 hx)
        go_end0
        rw [HR.out]
        exact xpost_of (h2.set_.set_) rfl (by simp only; have := HP.out; omega) rfl rfl rfl rfl
      · have HR := Lib.hid (show cByte r c = { r with line := r.line ++ [c] } by rw [HE.out, cLim, if_neg (fun h => h1 h.2), if_neg (fun h => by simp only at h; omega)])
        have h1 : r.line.length ≤ 64 := by omega
        clear hp
        go_enter Tryz.func30, Tryz.ntmps30
        go_wp2_with (at_builtin; refine wp_app1 rfl _ _ rfl 0 (.slice Al r.line.length cl) _ rfl hK.o.ol _ rfl _ rfl c rfl (by omega) (Nat.zero_le _) ?_; intro v' w2 ho2 hx; have h2 := hK.extL hx ho2; obtain ⟨A3, c3, hv3, hc31, hc32, hc33⟩ := ho2.form; rw [show (r.line ++ [c]).length = r.line.length + 1 by simp] at hv3; subst hv3; obtain ⟨k0, k1, k2, k3, k4, k5, k6, k7, n0, n1, n2, n3, n4, n5, n6, n7⟩ := Blk.c8 h2.o.blk; rw [HP.out] at k4; clear ho2 hx)
        go_end0
        rw [HR.out]
        exact xpost_of (h2.set_) rfl (by simp only; have := HP.out; omega) rfl rfl rfl rfl
    · have HP := Lib.hid hp
      rw [hp] at j4
      by_cases h1 : 256 < r.line.length
      · have HR := Lib.hid (show cByte r c = { r with line := r.line ++ [c], status := 431 } by rw [HE.out, cLim, if_neg (fun h => by simp only at h; omega), if_pos ⟨hp, .inl h1⟩])
        clear hp
        go_enter Tryz.func30, Tryz.ntmps30
        go_wp2_with (at_builtin; refine wp_app1 rfl _ _ rfl 0 (.slice Al r.line.length cl) _ rfl hK.o.ol _ rfl _ rfl c rfl (by omega) (Nat.zero_le _) ?_; intro v' w2 ho2 hx; have h2 := hK.extL hx ho2; obtain ⟨A3, c3, hv3, hc31, hc32, hc33⟩ := ho2.form; rw [show (r.line ++ [c]).length = r.line.length + 1 by simp] at hv3; subst hv3; obtain ⟨k0, k1, k2, k3, k4, k5, k6, k7, n0, n1, n2, n3, n4, n5, n6, n7⟩ := Blk.c8 h2.o.blk; rw [HP.out] at k4; clear ho2 hx)
        go_end0
        rw [HR.out]
        exact xpost_of (h2.set_.set_) rfl (by simp only; have := HP.out; omega) rfl rfl rfl rfl
      · by_cases h2 : 512 < r.ends + r.line.length
        · have HR := Lib.hid (show cByte r c = { r with line := r.line ++ [c], status := 431 } by rw [HE.out, cLim, if_neg (fun h => by simp only at h; omega), if_pos ⟨hp, .inr h2⟩])
          have h1 : r.line.length ≤ 256 := by omega
          clear hp
          go_enter Tryz.func30, Tryz.ntmps30
          go_wp2_with (at_builtin; refine wp_app1 rfl _ _ rfl 0 (.slice Al r.line.length cl) _ rfl hK.o.ol _ rfl _ rfl c rfl (by omega) (Nat.zero_le _) ?_; intro v' w2 ho2 hx; have h9 := hK.extL hx ho2; obtain ⟨A3, c3, hv3, hc31, hc32, hc33⟩ := ho2.form; rw [show (r.line ++ [c]).length = r.line.length + 1 by simp] at hv3; subst hv3; obtain ⟨k0, k1, k2, k3, k4, k5, k6, k7, n0, n1, n2, n3, n4, n5, n6, n7⟩ := Blk.c8 h9.o.blk; rw [HP.out] at k4; clear ho2 hx)
          go_end0
          rw [HR.out]
          exact xpost_of (h9.set_.set_) rfl (by simp only; have := HP.out; omega) rfl rfl rfl rfl
        · have HR := Lib.hid (show cByte r c = { r with line := r.line ++ [c] } by rw [HE.out, cLim, if_neg (fun h => by simp only at h; omega), if_neg (fun h => by simp only at h; omega)])
          have h1 : r.line.length ≤ 256 := by omega
          have h2 : r.ends + r.line.length ≤ 512 := by omega
          clear hp
          go_enter Tryz.func30, Tryz.ntmps30
          go_wp2_with (at_builtin; refine wp_app1 rfl _ _ rfl 0 (.slice Al r.line.length cl) _ rfl hK.o.ol _ rfl _ rfl c rfl (by omega) (Nat.zero_le _) ?_; intro v' w2 ho2 hx; have h9 := hK.extL hx ho2; obtain ⟨A3, c3, hv3, hc31, hc32, hc33⟩ := ho2.form; rw [show (r.line ++ [c]).length = r.line.length + 1 by simp] at hv3; subst hv3; obtain ⟨k0, k1, k2, k3, k4, k5, k6, k7, n0, n1, n2, n3, n4, n5, n6, n7⟩ := Blk.c8 h9.o.blk; rw [HP.out] at k4; clear ho2 hx)
          go_end0
          rw [HR.out]
          exact xpost_of (h9.set_) rfl (by simp only; have := HP.out; omega) rfl rfl rfl rfl
  · have hc2 := u8ne h13 (n := 13) rfl
    have HE := Lib.hid (show cByte r c = cLim { r with line := r.line ++ [c] } (r.line.length + 1) by rw [hE0, if_neg h13])
    clear hE0 h13 hc
    rcases hp with hp | hp
    · have HP := Lib.hid hp
      rw [hp] at j4
      by_cases h1 : 64 < (r.line.length + 1)
      · have HR := Lib.hid (show cByte r c = { r with line := r.line ++ [c], status := 400 } by rw [HE.out, cLim, if_pos ⟨hp, h1⟩])
        clear hp
        go_enter Tryz.func30, Tryz.ntmps30
        go_wp2_with (at_builtin; refine wp_app1 rfl _ _ rfl 0 (.slice Al r.line.length cl) _ rfl hK.o.ol _ rfl _ rfl c rfl (by omega) (Nat.zero_le _) ?_; intro v' w2 ho2 hx; have h2 := hK.extL hx ho2; obtain ⟨A3, c3, hv3, hc31, hc32, hc33⟩ := ho2.form; rw [show (r.line ++ [c]).length = r.line.length + 1 by simp] at hv3; subst hv3; obtain ⟨k0, k1, k2, k3, k4, k5, k6, k7, n0, n1, n2, n3, n4, n5, n6, n7⟩ := Blk.c8 h2.o.blk; rw [HP.out] at k4; clear ho2 hx)
        go_end0
        rw [HR.out]
        exact xpost_of (h2.set_.set_) rfl (by simp only; have := HP.out; omega) rfl rfl rfl rfl
      · have HR := Lib.hid (show cByte r c = { r with line := r.line ++ [c] } by rw [HE.out, cLim, if_neg (fun h => h1 h.2), if_neg (fun h => by simp only at h; omega)])
        have h1 : (r.line.length + 1) ≤ 64 := by omega
        clear hp
        go_enter Tryz.func30, Tryz.ntmps30
        go_wp2_with (at_builtin; refine wp_app1 rfl _ _ rfl 0 (.slice Al r.line.length cl) _ rfl hK.o.ol _ rfl _ rfl c rfl (by omega) (Nat.zero_le _) ?_; intro v' w2 ho2 hx; have h2 := hK.extL hx ho2; obtain ⟨A3, c3, hv3, hc31, hc32, hc33⟩ := ho2.form; rw [show (r.line ++ [c]).length = r.line.length + 1 by simp] at hv3; subst hv3; obtain ⟨k0, k1, k2, k3, k4, k5, k6, k7, n0, n1, n2, n3, n4, n5, n6, n7⟩ := Blk.c8 h2.o.blk; rw [HP.out] at k4; clear ho2 hx)
        go_end0
        rw [HR.out]
        exact xpost_of (h2.set_) rfl (by simp only; have := HP.out; omega) rfl rfl rfl rfl
    · have HP := Lib.hid hp
      rw [hp] at j4
      by_cases h1 : 256 < (r.line.length + 1)
      · have HR := Lib.hid (show cByte r c = { r with line := r.line ++ [c], status := 431 } by rw [HE.out, cLim, if_neg (fun h => by simp only at h; omega), if_pos ⟨hp, .inl h1⟩])
        clear hp
        go_enter Tryz.func30, Tryz.ntmps30
        go_wp2_with (at_builtin; refine wp_app1 rfl _ _ rfl 0 (.slice Al r.line.length cl) _ rfl hK.o.ol _ rfl _ rfl c rfl (by omega) (Nat.zero_le _) ?_; intro v' w2 ho2 hx; have h2 := hK.extL hx ho2; obtain ⟨A3, c3, hv3, hc31, hc32, hc33⟩ := ho2.form; rw [show (r.line ++ [c]).length = r.line.length + 1 by simp] at hv3; subst hv3; obtain ⟨k0, k1, k2, k3, k4, k5, k6, k7, n0, n1, n2, n3, n4, n5, n6, n7⟩ := Blk.c8 h2.o.blk; rw [HP.out] at k4; clear ho2 hx)
        go_end0
        rw [HR.out]
        exact xpost_of (h2.set_.set_) rfl (by simp only; have := HP.out; omega) rfl rfl rfl rfl
      · by_cases h2 : 512 < r.ends + (r.line.length + 1)
        · have HR := Lib.hid (show cByte r c = { r with line := r.line ++ [c], status := 431 } by rw [HE.out, cLim, if_neg (fun h => by simp only at h; omega), if_pos ⟨hp, .inr h2⟩])
          have h1 : (r.line.length + 1) ≤ 256 := by omega
          clear hp
          go_enter Tryz.func30, Tryz.ntmps30
          go_wp2_with (at_builtin; refine wp_app1 rfl _ _ rfl 0 (.slice Al r.line.length cl) _ rfl hK.o.ol _ rfl _ rfl c rfl (by omega) (Nat.zero_le _) ?_; intro v' w2 ho2 hx; have h9 := hK.extL hx ho2; obtain ⟨A3, c3, hv3, hc31, hc32, hc33⟩ := ho2.form; rw [show (r.line ++ [c]).length = r.line.length + 1 by simp] at hv3; subst hv3; obtain ⟨k0, k1, k2, k3, k4, k5, k6, k7, n0, n1, n2, n3, n4, n5, n6, n7⟩ := Blk.c8 h9.o.blk; rw [HP.out] at k4; clear ho2 hx)
          go_end0
          rw [HR.out]
          exact xpost_of (h9.set_.set_) rfl (by simp only; have := HP.out; omega) rfl rfl rfl rfl
        · have HR := Lib.hid (show cByte r c = { r with line := r.line ++ [c] } by rw [HE.out, cLim, if_neg (fun h => by simp only at h; omega), if_neg (fun h => by simp only at h; omega)])
          have h1 : (r.line.length + 1) ≤ 256 := by omega
          have h2 : r.ends + (r.line.length + 1) ≤ 512 := by omega
          clear hp
          go_enter Tryz.func30, Tryz.ntmps30
          go_wp2_with (at_builtin; refine wp_app1 rfl _ _ rfl 0 (.slice Al r.line.length cl) _ rfl hK.o.ol _ rfl _ rfl c rfl (by omega) (Nat.zero_le _) ?_; intro v' w2 ho2 hx; have h9 := hK.extL hx ho2; obtain ⟨A3, c3, hv3, hc31, hc32, hc33⟩ := ho2.form; rw [show (r.line ++ [c]).length = r.line.length + 1 by simp] at hv3; subst hv3; obtain ⟨k0, k1, k2, k3, k4, k5, k6, k7, n0, n1, n2, n3, n4, n5, n6, n7⟩ := Blk.c8 h9.o.blk; rw [HP.out] at k4; clear ho2 hx)
          go_end0
          rw [HR.out]
          exact xpost_of (h9.set_) rfl (by simp only; have := HP.out; omega) rfl rfl rfl rfl
end Go.Proofs.YtfapnppgbhlidaaGreatDoor
