/- chunk: inLine, takes. -/
import Derived.Test.YtfapnppgbhlidaaGreatDoorKon3
namespace Go.Proofs.YtfapnppgbhlidaaGreatDoor
open Go.RowKit
set_option maxRecDepth 100000
set_option maxHeartbeats 4000000

/-- Blocks that stand behind the library's bound. -/
def Hi (S : Nat → Prop) : Prop := ∀ k, S k → 1 < k
theorem ML.lt {w : World} (h : ML w) : 1 < w.heap.size := by
  obtain ⟨m, hm⟩ := h
  rcases Nat.lt_or_ge 1 w.heap.size with h1 | h1
  · exact h1
  · simp [World.cell?, Array.getElem?_eq_none h1] at hm
theorem ML.fr {w w' : World} {S : Nat → Prop} (h : ML w) (hf : Fr S w w') (hh : Hi S) : ML w' := by
  have h1 := h.lt
  obtain ⟨m, hm⟩ := h
  exact ⟨m, (hf.cell (p := ⟨1, 0, none⟩) h1 (fun hs => Nat.lt_irrefl _ (hh _ hs))).trans hm⟩
theorem ML.set_ {w : World} (h : ML w) {p : Addr} (hp : 1 < p.block) (u : Value) : ML (w.setCell p u) :=
  h.fr ((Fr.refl (fun k => k = p.block) w).setCell (.inl rfl) u) fun k hk => by rw [hk]; exact hp
theorem Hi.moved {S S' : Nat → Prop} {w w' : World} (h : Hi S) (hm : ML w) (m : Moved S S' w w') : Hi S' := by
  intro k hk
  rcases m.foot k hk with h1 | h1
  · exact h k h1
  · exact Nat.lt_of_lt_of_le hm.lt h1
theorem kpost_go {w W : World} {g : Nat} {cs : Array Value} {vl vb vt vl' vb' vt' : Value} {L B : Bs} {F : List Fd} {r : CS} {e : Ending} {w' : World} (h : KW w (foot g vl vb vt) W 74 g cs vl' vb' vt' L B F)
    (hp : KPost W g vl' vb' vt' r e w') : KPost w g vl vb vt r e w' := by
  obtain ⟨he, a, b, c, h1, h2⟩ := hp
  exact ⟨he, a, b, c, h1, h.m.trans h2⟩
theorem ka_of {w W : World} {S : Nat → Prop} {g : Nat} {cs : Array Value} {vl vb vt : Value} {L B : Bs} {F : List Fd} {r : CS} (h : KW w S W 74 g cs vl vb vt L B F)
    (hc : cs = kCells r vl vb vt) (hL : L = r.line) (hB : B = r.body) (hF : F = r.trs) : KA W g vl vb vt r := by
  subst hc hL hB hF; exact h.o
theorem cLine_lim (r : CS) (c : UInt8) (hc : c ≠ 10) : cLine r c = cLim { r with line := r.line ++ [c] } (if c = 13 then r.line.length else r.line.length + 1) := by
  rw [cLine, if_neg hc]; rfl
theorem chk_inLine_app (g : Nat) (vl vb vt : Value) (r : CS) (c : UInt8) (w : World) (h : KA w g vl vb vt r) (hi : CInv r) (hc : c ≠ 10) :
    Calls Tryz.prog 49 #[.pointer (some ⟨g, 0, none⟩), .int .u8 (c.toNat : Int)] w (KPost w g vl vb vt (cLine r c)) := by
  obtain ⟨j0, j1, j2, j3, j4, j5, j6, j7, i0, i1, i2, i3, i4, i5, i6, i7⟩ := Blk.c8 h.blk
  obtain ⟨Al, cl, rfl, hb1, hb2, hb3⟩ := h.ol.form
  have hK := KW.refl h
  have hlen := hi.len
  have he := hi.ends2
  have hc1 := u8ne hc (n := 10) rfl
  by_cases h13 : c = 13
  · have hc2 : ((c.toNat : Int) == 13) = true := by rw [h13]; rfl
    have HR := Lib.hid (show cLine r c = cLim { r with line := r.line ++ [c] } r.line.length by rw [cLine_lim _ _ hc, if_pos h13])
    clear h13
    go_enter Tryz.func49, Tryz.ntmps49
    go_wp2_with (at_builtin; refine wp_app1 rfl _ _ rfl 0 (.slice Al r.line.length cl) _ rfl h.ol _ rfl _ rfl c rfl (by omega) (Nat.zero_le _) ?_; intro v' w2 ho2 hx; have h2 := hK.extL hx ho2; obtain ⟨A3, c3, hv3, hc31, hc32, hc33⟩ := ho2.form; rw [show (r.line ++ [c]).length = r.line.length + 1 by simp] at hv3; subst hv3; obtain ⟨k0, k1, k2, k3, k4, k5, k6, k7, n0, n1, n2, n3, n4, n5, n6, n7⟩ := Blk.c8 h2.o.blk; clear ho2 hx)
    have h3 := h2.set_ (i := 1) (u := .slice A3 (r.line.length + 1) c3)
    refine (chk_limits g _ _ _ { r with line := r.line ++ [c] } r.line.length _ (ka_of h3 rfl rfl rfl rfl) (by omega) he).mono ?_
    intro e w' hp
    have hp2 := kpost_go h3 hp
    rw [← HR.out] at hp2
    clear h2 h3 hp
    obtain ⟨rfl, hq⟩ := hp2
    go_wp2
    go_end0
    exact ⟨rfl, hq⟩
  · have hc2 := u8ne h13 (n := 13) rfl
    have HR := Lib.hid (show cLine r c = cLim { r with line := r.line ++ [c] } (r.line.length + 1) by rw [cLine_lim _ _ hc, if_neg h13])
    go_enter Tryz.func49, Tryz.ntmps49
    go_wp2_with (at_builtin; refine wp_app1 rfl _ _ rfl 0 (.slice Al r.line.length cl) _ rfl h.ol _ rfl _ rfl c rfl (by omega) (Nat.zero_le _) ?_; intro v' w2 ho2 hx; have h2 := hK.extL hx ho2; obtain ⟨A3, c3, hv3, hc31, hc32, hc33⟩ := ho2.form; rw [show (r.line ++ [c]).length = r.line.length + 1 by simp] at hv3; subst hv3; obtain ⟨k0, k1, k2, k3, k4, k5, k6, k7, n0, n1, n2, n3, n4, n5, n6, n7⟩ := Blk.c8 h2.o.blk; clear ho2 hx)
    have h3 := h2.set_ (i := 1) (u := .slice A3 (r.line.length + 1) c3)
    refine (chk_limits g _ _ _ { r with line := r.line ++ [c] } (r.line.length + 1) _ (ka_of h3 rfl rfl rfl rfl) (by omega) he).mono ?_
    intro e w' hp
    have hp2 := kpost_go h3 hp
    rw [← HR.out] at hp2
    clear h2 h3 hp
    obtain ⟨rfl, hq⟩ := hp2
    go_wp2
    go_end0
    exact ⟨rfl, hq⟩
theorem cLine_bad (r : CS) (h : r.line.getLast? ≠ some 13) : cLine r 10 = { r with status := 400 } := by rw [cLine, if_pos rfl, if_neg h]
theorem cLine_end (r : CS) (P : Bs) (h : r.line = P ++ [13]) : cLine r 10 = if r.place = 0 then cSize { r with line := [] } P else if P = [] then { r with line := [], whole := true } else cTrailer { r with line := [] } P := by
  rw [cLine, if_pos rfl, if_pos (by rw [h]; simp), h]
  simp only [List.dropLast_concat]
theorem snoc_cases (l : Bs) : l = [] ∨ ∃ P x, l = P ++ [x] := by
  rcases List.eq_nil_or_concat l with h | ⟨P, x, h⟩
  · exact .inl h
  · exact .inr ⟨P, x, by simpa using h⟩
theorem chk_inLine_bad (g : Nat) (vl vb vt : Value) (r : CS) (w : World) (h : KA w g vl vb vt r) (hi : CInv r) (hb : r.line.getLast? ≠ some 13) :
    Calls Tryz.prog 49 #[.pointer (some ⟨g, 0, none⟩), .int .u8 10] w (KPost w g vl vb vt (cLine r 10)) := by
  obtain ⟨j0, j1, j2, j3, j4, j5, j6, j7, i0, i1, i2, i3, i4, i5, i6, i7⟩ := Blk.c8 h.blk
  have hK := KW.refl h
  have hlen := hi.len
  have HR := Lib.hid (cLine_bad r hb)
  rcases snoc_cases r.line with hl | ⟨P, x, hl⟩
  · obtain ⟨Al, cl, rfl, hb1, hb2, hb3⟩ := h.ol.form
    rw [hl] at j1
    go_enter Tryz.func49, Tryz.ntmps49
    go_wp2
    go_end0
    exact kpost hK.set_ rfl (by rw [HR.out]; rfl) (by rw [HR.out]) (by rw [HR.out]) (by rw [HR.out])
  · have hx : x ≠ 13 := by rintro rfl; exact hb (by rw [hl]; simp)
    have hn : r.line.length = P.length + 1 := by rw [hl]; simp
    obtain ⟨b, cap, rfl, hb1, hb2, hb3⟩ := Own.form h.ol (by omega)
    obtain ⟨hc1, hc2⟩ := Own.cellAt h.ol P.length (by omega)
    have hc3 : w.cell? ⟨b, P.length, none⟩ = some (.int .u8 (x.toNat : Int)) := by rw [hc1, hl]; simp
    rw [hn] at j1 hb3
    have hx2 := u8ne hx (n := 13) rfl
    have hx3 : ((x.toNat : Int) != 13) = true := by rw [bne, hx2]; rfl
    have hp0 : ((P.length : Int) + 1 == 0) = false := by rw [Bool.eq_false_iff]; intro h0; rw [beq_iff_eq] at h0; omega
    clear hc1 hb
    go_enter Tryz.func49, Tryz.ntmps49
    go_wp2
    go_end0
    exact kpost hK.set_ rfl (by rw [HR.out]; rfl) (by rw [HR.out]) (by rw [HR.out]) (by rw [HR.out])
theorem chk_inLine_end (g : Nat) (vl vb vt : Value) (r : CS) (P : Bs) (w : World) (h : KA w g vl vb vt r) (hi : CInv r) (hl : r.line = P ++ [13]) (hp : r.place = 0 ∨ r.place = 3) (hm : ML w) (hh : Hi (foot g vl (vb : Value) vt)) :
    Calls Tryz.prog 49 #[.pointer (some ⟨g, 0, none⟩), .int .u8 10] w (KPost w g vl vb vt (cLine r 10)) := by
  obtain ⟨j0, j1, j2, j3, j4, j5, j6, j7, i0, i1, i2, i3, i4, i5, i6, i7⟩ := Blk.c8 h.blk
  have hK := KW.refl h
  have hlen := hi.len
  have hbd := hi.body
  have hee := hi.ends2
  have htr := hi.trs
  have hn : r.line.length = P.length + 1 := by rw [hl]; simp
  have HR := Lib.hid (cLine_end r P hl)
  obtain ⟨b, cap, hv, hKc⟩ := hK.cutL (by omega)
  subst hv
  obtain ⟨hc1, hc2⟩ := Own.cellAt h.ol P.length (by omega)
  have hc3 : w.cell? ⟨b, P.length, none⟩ = some (.int .u8 13) := by rw [hc1, hl]; simp
  obtain ⟨hb3, hb4, hb5⟩ := Own.rdS h.ol
  have hrd := Rd.cutTo hb5 (k := P.length) (by omega)
  rw [Nat.mul_one, show (r.line.map bv).take P.length = P.map bv by rw [hl]; simp] at hrd
  obtain ⟨X, hX⟩ : ∃ X : ByteArray, X = ⟨P.toArray⟩ := ⟨_, rfl⟩
  have HX := Lib.hid (show X.data.toList = P by rw [hX])
  have hXs : X.size = P.length := by rw [hX]; exact (len_data _).symm
  have hcv := run_str_rd (P := Tryz.prog) hrd cap 22 5 9 Tryz.underlying22 Tryz.underlying5 Tryz.underlying9
  rw [show sv P = .string X by rw [hX]] at hcv
  have hf := h.nl
  have hgb : ¬ b = g := by intro e; apply hf; rw [← e]; rfl
  rw [hn] at j1 hb3
  have hp0 : ((P.length : Int) + 1 == 0) = false := by rw [Bool.eq_false_iff]; intro h0; rw [beq_iff_eq] at h0; omega
  have h3 := hKc.set_ (i := 1) (u := .slice (some ⟨b, 0, none⟩) 0 cap)
  have hkA : KA (w.setCell ⟨g, 1, none⟩ (.slice (some ⟨b, 0, none⟩) 0 cap)) g (.slice (some ⟨b, 0, none⟩) 0 cap) vb vt { r with line := [] } := ka_of h3 rfl rfl rfl rfl
  clear hX hrd hb5 hb4 hc1 hf hKc
  rcases hp with hp | hp
  · rw [hp] at j0
    have HR2 := Lib.hid (HR.out.trans (if_pos hp))
    go_enter Tryz.func49, Tryz.ntmps49
    go_wp2_with fail
    refine (chk_size g _ _ _ { r with line := [] } X _ hkA (by omega) (by simp only; rw [if_neg (by omega)] at hbd; omega)).mono ?_
    rw [HX.out, ← HR2.out]
    intro e w' hq
    obtain ⟨rfl, hq2⟩ := kpost_go h3 hq
    go_wp2
    go_end0
    exact ⟨rfl, hq2⟩
  · rw [hp] at j0
    have HR2 := Lib.hid (HR.out.trans (if_neg (by omega)))
    rcases Nat.eq_zero_or_pos P.length with h0 | h0
    · have HR3 := Lib.hid (HR2.out.trans (if_pos (List.eq_nil_of_length_eq_zero h0)))
      obtain rfl : X = ⟨#[]⟩ := empty_size (by omega)
      have hK4 := h3.set_ (i := 6) (u := .bool true)
      clear h0 hXs
      go_enter Tryz.func49, Tryz.ntmps49
      go_wp2
      go_end0
      exact kpost hK4 rfl (by rw [HR3.out]; rfl) (by rw [HR3.out]) (by rw [HR3.out]) (by rw [HR3.out])
    · have HR3 := Lib.hid (HR2.out.trans (if_neg (by intro h1; rw [h1] at h0; simp at h0)))
      have hXe := ne_isEmpty (s := X) (by omega)
      have hm2 : ML (w.setCell ⟨g, 1, none⟩ (.slice (some ⟨b, 0, none⟩) 0 cap)) := hm.set_ (p := ⟨g, 1, none⟩) (hh g (.inl rfl)) _
      go_enter Tryz.func49, Tryz.ntmps49
      go_wp2_with fail
      refine (chk_trailer g _ _ _ { r with line := [] } X _ hkA (by omega) (by simp only; omega) htr hm2).mono ?_
      rw [HX.out, ← HR3.out]
      intro e w' hq
      obtain ⟨rfl, hq2⟩ := kpost_go h3 hq
      go_wp2
      go_end0
      exact ⟨rfl, hq2⟩
end Go.Proofs.YtfapnppgbhlidaaGreatDoor
