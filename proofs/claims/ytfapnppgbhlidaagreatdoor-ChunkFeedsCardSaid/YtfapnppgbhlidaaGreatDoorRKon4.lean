/- usherref14: the end of a line; Feed. -/
import Derived.Test.YtfapnppgbhlidaaGreatDoorRKon3
namespace Go.Proofs.YtfapnppgbhlidaaGreatDoor
open Go.RowKit
set_option maxRecDepth 100000
set_option maxHeartbeats 4000000

theorem xref_one_bad (g : Nat) (vl vb vt : Value) (r : CS) (w : World) (h : XA w g vl vb vt r) (hi : CInv r) (hp : r.place = 0 ∨ r.place = 3) (hb : r.line.getLast? ≠ some 13) :
    Calls Tryz.prog 30 #[.pointer (some ⟨g, 0, none⟩), .int .u8 10] w (XPost w g vl vb vt (cByte r 10)) := by
  have hp2 : r.place ≠ 2 := by omega
  have hK := xrefl h hp2
  have hlen := hi.len
  have HR := Lib.hid ((cByte_line r 10 (by omega) (by omega)).trans (cLine_bad r hb))
  obtain ⟨j0, j1, j2, j3, j4, j5, j6, j7, i0, i1, i2, i3, i4, i5, i6, i7⟩ := Blk.c8 hK.o.blk
  have e1 : ((r.place : Int) == 1) = false := by rw [Bool.eq_false_iff]; intro h0; rw [beq_iff_eq] at h0; omega
  have e2 : ((r.place : Int) == 2) = false := by rw [Bool.eq_false_iff]; intro h0; rw [beq_iff_eq] at h0; omega
  rcases snoc_cases r.line with hl | ⟨P, x, hl⟩
  · obtain ⟨Al, cl, hvl, hb1, hb2, hb3⟩ := hK.o.ol.form
    subst hvl
    rw [hl] at j5
    clear hp hl hb
    go_enter Tryz.func30, Tryz.ntmps30
    go_wp2
    go_end0
    rw [HR.out]
    exact xpost_of hK.set_ rfl hp2 rfl rfl rfl rfl
  · have hx : x ≠ 13 := by rintro rfl; exact hb (by rw [hl]; simp)
    have hn : r.line.length = P.length + 1 := by rw [hl]; simp
    obtain ⟨b, cap, hvl, hb1, hb2, hb3⟩ := Own.form hK.o.ol (by omega)
    subst hvl
    obtain ⟨hc1, hc2⟩ := Own.cellAt hK.o.ol P.length (by omega)
    have hc3 : w.cell? ⟨b, P.length, none⟩ = some (.int .u8 (x.toNat : Int)) := by rw [hc1, hl]; simp
    rw [hn] at j5 hb3
    have hx2 := u8ne hx (n := 13) rfl
    have hx3 : ((x.toNat : Int) != 13) = true := by rw [bne, hx2]; rfl
    have hp0 : ((P.length : Int) + 1 == 0) = false := by rw [Bool.eq_false_iff]; intro h0; rw [beq_iff_eq] at h0; omega
    clear hc1 hb hp
    go_enter Tryz.func30, Tryz.ntmps30
    go_wp2
    go_end0
    rw [HR.out]
    exact xpost_of hK.set_ rfl hp2 rfl rfl rfl rfl
theorem xref_one_fin (g : Nat) (vl vb vt : Value) (r : CS) (P : Bs) (w : World) (h : XA w g vl vb vt r) (hi : CInv r) (hl : r.line = P ++ [13]) (hp : r.place = 0 ∨ r.place = 3) :
    Calls Tryz.prog 30 #[.pointer (some ⟨g, 0, none⟩), .int .u8 10] w (XPost w g vl vb vt (cByte r 10)) := by
  have hp2 : r.place ≠ 2 := by omega
  have hK := xrefl h hp2
  have hlen := hi.len
  have hbd := hi.body
  have hee := hi.ends2
  have htr := hi.trs
  have hn : r.line.length = P.length + 1 := by rw [hl]; simp
  have HR := Lib.hid ((cByte_line r 10 (by omega) (by omega)).trans (cLine_end r P hl))
  obtain ⟨b, cap, hvl, -, -, -⟩ := Own.form hK.o.ol (by omega)
  subst hvl
  obtain ⟨j0, j1, j2, j3, j4, j5, j6, j7, i0, i1, i2, i3, i4, i5, i6, i7⟩ := Blk.c8 hK.o.blk
  obtain ⟨hc1, hc2⟩ := Own.cellAt hK.o.ol P.length (by omega)
  have hc3 : w.cell? ⟨b, P.length, none⟩ = some (.int .u8 13) := by rw [hc1, hl]; simp
  obtain ⟨hb3, hb4, hb5⟩ := Own.rdS hK.o.ol
  have hrd := Rd.cutTo hb5 (k := P.length) (by omega)
  rw [Nat.mul_one, show (r.line.map bv).take P.length = P.map bv by rw [hl]; simp] at hrd
  obtain ⟨X, hX⟩ : ∃ X : ByteArray, X = ⟨P.toArray⟩ := ⟨_, rfl⟩
  have HX := Lib.hid (show X.data.toList = P by rw [hX])
  have hXs : X.size = P.length := by rw [hX]; exact (len_data _).symm
  have hXb : X.size ≤ 258 := by omega
  have hcv := run_str_rd (P := Tryz.prog) hrd cap 22 5 9 Tryz.underlying22 Tryz.underlying5 Tryz.underlying9
  rw [show sv P = .string X by rw [hX]] at hcv
  rw [hn] at j5 hb3
  have hp0 : ((P.length : Int) + 1 == 0) = false := by rw [Bool.eq_false_iff]; intro h0; rw [beq_iff_eq] at h0; omega
  have h3 := (hK.nilL).set_ (i := 5) (u := .slice none 0 0)
  have hxA : XA (w.setCell ⟨g, 5, none⟩ (.slice none 0 0)) g (.slice none 0 0) vb vt { r with line := [] } := xa_of h3 hp2 rfl rfl rfl rfl
  clear hX hrd hb5 hb4 hc1 hXs
  rcases hp with hp | hp
  · rw [hp] at j4
    have HR2 := Lib.hid (HR.out.trans (if_pos hp))
    have hC := xref_size g _ _ _ { r with line := [] } X _ hxA hp (by omega) (by simp only; omega)
    rw [HX.out, ← HR2.out] at hC
    clear hp
    go_enter Tryz.func30, Tryz.ntmps30
    go_wp2_with fail
    refine hC.mono ?_
    intro e w' hq
    obtain ⟨rfl, hq2⟩ := xpost_go h3 hq
    go_wp2
    go_end0
    exact ⟨rfl, hq2⟩
  · rw [hp] at j4
    have HR2 := Lib.hid (HR.out.trans (if_neg (by omega)))
    have hC := xref_trailer g _ _ _ { r with line := [] } X _ hxA hp (by omega) (by simp only; omega) htr
    rw [HX.out] at hC
    have HR3 := Lib.hid (show (if P = [] then { ({ r with line := [] } : CS) with whole := true } else cTrailer { r with line := [] } P) = cByte r 10 from HR2.out.symm)
    rw [HR3.out] at hC
    clear hp
    go_enter Tryz.func30, Tryz.ntmps30
    go_wp2_with fail
    refine hC.mono ?_
    intro e w' hq
    obtain ⟨rfl, hq2⟩ := xpost_go h3 hq
    go_wp2
    go_end0
    exact ⟨rfl, hq2⟩
theorem xref_one (g : Nat) (vl vb vt : Value) (r : CS) (c : UInt8) (w : World) (h : XA w g vl vb vt r) (hi : CInv r) :
    Calls Tryz.prog 30 #[.pointer (some ⟨g, 0, none⟩), .int .u8 (c.toNat : Int)] w (XPost w g vl vb vt (cByte r c)) := by
  by_cases h1 : r.place = 1
  · exact xref_one_data g vl vb vt r c w h hi h1
  by_cases h2 : r.place = 2
  · exact xref_one_end g vl vb vt r c w h hi h2
  have hp : r.place = 0 ∨ r.place = 3 := by have := hi.place; omega
  by_cases hc : c = 10
  · subst hc
    by_cases hl : r.line.getLast? = some 13
    · rcases snoc_cases r.line with h0 | ⟨P, x, h0⟩
      · rw [h0] at hl; cases hl
      · obtain rfl : x = 13 := by rw [h0] at hl; simpa using hl
        exact xref_one_fin g vl vb vt r P w h hi h0 hp
    · exact xref_one_bad g vl vb vt r w h hi hp hl
  · exact xref_one_app g vl vb vt r c w h hi hp hc
/-- The reference's Reader at block g, with the blocks S. -/
def XR (w : World) (g : Nat) (S : Nat → Prop) (r : CS) : Prop := ∃ vl vb vt, S = foot g vl vb vt ∧ XA w g vl vb vt r
theorem XR.lt {w : World} {g : Nat} {S : Nat → Prop} {r : CS} (h : XR w g S r) {k : Nat} (hk : S k) : k < w.heap.size := by
  obtain ⟨vl, vb, vt, rfl, h⟩ := h
  exact h.foot_lt hk
theorem XR.fr {w w' : World} {g : Nat} {S T : Nat → Prop} {r : CS} (h : XR w g S r) (hf : Fr T w w') (hs : ∀ k, S k → ¬ T k) : XR w' g S r := by
  obtain ⟨vl, vb, vt, rfl, h⟩ := h
  exact ⟨vl, vb, vt, rfl, O3.fr h hf hs⟩
theorem XR.belowW {w w' : World} {g : Nat} {S : Nat → Prop} {r : CS} (h : XR w g S r) (hb : Below w.heap.size w w') : XR w' g S r := by
  obtain ⟨vl, vb, vt, rfl, h⟩ := h
  exact ⟨vl, vb, vt, rfl, O3.belowW h hb⟩
def XFeedPost (w : World) (g : Nat) (S : Nat → Prop) (q : Nat × CS) (e : Ending) (w' : World) : Prop :=
  e = .returned (.tuple #[.int .i64 (q.1 : Int), .bool q.2.whole, .int .i64 q.2.status]) ∧ ∃ S', XR w' g S' q.2 ∧ Moved S S' w w'
theorem xref_Feed (g : Nat) (S : Nat → Prop) (r : CS) (A : Option Addr) (n c B : Nat) (p : Bs) (w : World) (h : XR w g S r) (hi : CInv r) (hA : Rd w B 1 A n (p.map bv)) (hB : B ≤ w.heap.size)
    (hne : 0 < n → ∀ a, A = some a → ¬ S a.block) (hn : n ≤ 1000000) :
    Calls Tryz.prog 12 #[.pointer (some ⟨g, 0, none⟩), .slice A n c] w (XFeedPost w g S (cFeed r p)) := by
  have hl : p.length = n := by simpa using hA.1
  go_enter Tryz.func12, Tryz.ntmps12
  go_wp2
  go_loopw [7] (fun i wr => ∃ (k : Nat) (r' : CS) (S' : Nat → Prop), k ≤ n ∧ i = .int .i64 k ∧ XR wr g S' r' ∧ CInv r' ∧ Moved S S' w wr ∧ Hid (cFeed r p = (k + (cFeed r' (p.drop k)).1, (cFeed r' (p.drop k)).2))) (fun i _ => n - (intOf i).toNat)
  case atStart => exact ⟨0, r, S, Nat.zero_le _, rfl, h, hi, Moved.refl _ _, Lib.hid (by simp)⟩
  case round =>
    obtain ⟨k, r', S', hk, rfl, hK, hI, hM, H⟩ := hrel
    have hA2 := hA.frm hB hM.fr hne
    obtain ⟨vl, vb, vt, hS, hKA⟩ := hK
    obtain ⟨j0, j1, j2, j3, j4, j5, j6, j7, i0, i1, i2, i3, i4, i5, i6, i7⟩ := Blk.c8 hKA.blk
    by_cases hlt : k < n
    · obtain ⟨x, hx, hd⟩ := drop_at (l := p) (k := k) (by omega)
      cases ho : r'.on
      · have HR := Lib.hid (show cFeed r p = (k, r') by rw [H.out, cFeed_off _ _ ho]; rfl)
        have hx0 : r'.whole = true ∨ (r'.whole = false ∧ (r'.status == 0) = false) := by
          unfold CS.on at ho
          cases hw : r'.whole
          · rw [hw] at ho
            right
            refine ⟨rfl, ?_⟩
            rw [Bool.eq_false_iff]; intro h0; rw [beq_iff_eq] at h0; rw [h0] at ho; cases ho
          · exact .inl rfl
        clear hd H hx ho
        rcases hx0 with hw | ⟨hw, hst⟩
        · rw [hw] at j2
          go_wp2
          go_quiet (fail)
          go_wp2
          go_ret3
          exact ⟨by rw [HR.out]; simp only; rw [hw]; rfl, S', by rw [HR.out]; exact XR.belowW ⟨vl, vb, vt, hS, hKA⟩ (below_drewN' (Below.refl _ _) _), hM.drewN _⟩
        · rw [hw] at j2
          go_wp2
          go_quiet (fail)
          go_wp2
          go_ret3
          exact ⟨by rw [HR.out]; simp only; rw [hw]; rfl, S', by rw [HR.out]; exact XR.belowW ⟨vl, vb, vt, hS, hKA⟩ (below_drewN' (Below.refl _ _) _), hM.drewN _⟩
      · obtain ⟨hw, hst⟩ := CS.on_parts _ ho
        have HR := Lib.hid (show cFeed r p = ((k + 1) + (cFeed (cByte r' x) (p.drop (k + 1))).1, (cFeed (cByte r' x) (p.drop (k + 1))).2) by rw [H.out, hd, cFeed_on _ _ _ ho]; exact Prod.ext (by simp only; omega) rfl)
        have hI2 := cByte_inv r' x hI ho
        obtain ⟨b, o, rfl, hb, hcell⟩ := hA2.byte k x hx
        rw [hw] at j2
        rw [hst] at j3
        clear hx hd H ho
        go_wp2_with fail
        subst hS
        refine (xref_one g vl vb vt r' x wr hKA hI).mono ?_
        rintro e w1 ⟨rfl, vl', vb', vt', hKA', hM'⟩
        go_wp2_with fail
        go_roundw
        case rel => exact ⟨k + 1, cByte r' x, _, by omega, by go_num, ⟨_, _, _, rfl, hKA'⟩, hI2, hM.trans hM', HR⟩
        case measure => simp [intOf]; omega
    · have HR := Lib.hid (show cFeed r p = (k, r') by rw [H.out, List.drop_of_length_le (by omega)]; rfl)
      clear H
      go_wp2
      go_quiet (fail)
      go_wp2
      go_ret3
      exact ⟨by rw [HR.out]; rfl, S', by rw [HR.out]; exact XR.belowW ⟨vl, vb, vt, hS, hKA⟩ (below_drewN' (Below.refl _ _) _), hM.drewN _⟩
end Go.Proofs.YtfapnppgbhlidaaGreatDoor
