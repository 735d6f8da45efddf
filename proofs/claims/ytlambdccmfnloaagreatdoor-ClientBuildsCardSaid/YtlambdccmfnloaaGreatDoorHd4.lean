/- head: Line. head: Line, behind the start. head: Line, in all ways; a nil Head. -/
import Derived.Test.YtlambdccmfnloaaGreatDoorHd
import Derived.Test.YtlambdccmfnloaaGreatDoorFrm6
import Derived.Test.YtlambdccmfnloaaGreatDoorFPl
import Derived.Deep.QuietTactic
import Derived.BigQuiet
import Derived.Deep.RegionHeld3
namespace Go.Proofs.YtlambdccmfnloaaGreatDoor
open Go.RowKit
set_option maxRecDepth 100000
set_option maxHeartbeats 4000000

def HLPost (w : World) (g : Nat) (S : Nat → Prop) (r : HS) (e : Ending) (w' : World) : Prop :=
  e = .returned (.tuple #[.bool r.whole, .int .i64 r.status]) ∧ ∃ S', HR w' g S' r ∧ Moved S S' w w'
theorem hd_Line_off (g : Nat) (S : Nat → Prop) (h : HS) (s : ByteArray) (w : World) (k : HR w g S h) (ho : h.on = false) :
    Calls Tryz.prog 142 #[.pointer (some ⟨g, 0, none⟩), .string s] w (HLPost w g S h) := by
  obtain ⟨pf, v, hS, kk⟩ := id k
  have hb := kk.blk
  unfold hCells at hb
  obtain ⟨⟨j0, j1, j2, j3, j4, j5, j6, j7, j8, j9, j10, j11, j12, j13, j14, j15⟩, i0, i1, i2, i3, i4, i5, i6, i7, i8, i9, i10, i11, i12, i13, i14, i15⟩ := Blk.c16 hb
  clear hb kk i0 i1 i2 i3 i4 i5 i6 i7 i8 i9 i10 i11 i12 i13 i14 i15 j0 j1 j2 j3 j4 j5 j6 j7 j8 j9 j10 j11 j12 j13
  rcases h.off_parts ho with hw | ⟨hw, hst⟩
  · rw [hw] at j14
    go_enter Tryz.func142, Tryz.ntmps142
    go_wp2
    go_quiet (fail)
    go_wp2
    go_ret2
    exact ⟨by rw [hw]; rfl, S, k.belowW (below_drewN' (Below.refl _ _) _), (Moved.refl _ _).drewN _⟩
  · rw [hw] at j14
    have hst2 : (h.status != 0) = true := by rw [bne_iff_ne]; exact hst
    go_enter Tryz.func142, Tryz.ntmps142
    go_wp2
    go_quiet (fail)
    go_wp2
    go_ret2
    exact ⟨by rw [hw]; rfl, S, k.belowW (below_drewN' (Below.refl _ _) _), (Moved.refl _ _).drewN _⟩
def hS (g pf : Nat) (v : Value) : Nat → Prop := fun i => i = g ∨ FS pf v i
/-- From w0, where the head had the blocks S, to w. -/
structure HW (w0 : World) (S : Nat → Prop) (w : World) (g pf : Nat) (v : Value) (h : HS) : Prop where
  k : HK w g pf v h
  m : Moved S (hS g pf v) w0 w
namespace HW
variable {w0 w w' : World} {S : Nat → Prop} {g pf : Nat} {v : Value} {h : HS}
theorem refl (k : HK w g pf v h) : HW w (hS g pf v) w g pf v h := ⟨k, Moved.refl _ _⟩
theorem set_ (q : HW w0 S w g pf v h) {h' : HS} (i : Nat) (u : Value) (hc : (hCells h pf).setIfInBounds i u = hCells h' pf) (hf : h'.flds = h.flds) : HW w0 S (w.setCell ⟨g, i, none⟩ u) g pf v h' := by
  have hfr : Fr (fun k => k = g) w (w.setCell ⟨g, i, none⟩ u) := Fr.setCell (S := fun k => k = g) (Fr.refl _ w) (p := ⟨g, i, none⟩) (.inl rfl) u
  refine ⟨⟨by rw [← hc]; exact q.k.blk.set_ i u, by rw [hf]; exact q.k.fa.fr hfr (fun e => q.k.ne e.symm) (fun j hj e => q.k.no (by rw [hj, e])), q.k.ne, q.k.no⟩, ?_⟩
  have h1 : Moved (hS g pf v) (hS g pf v) w (w.setCell ⟨g, i, none⟩ u) := (Moved.refl _ _).set_ (.inl rfl) u
  exact q.m.trans h1
theorem belowW (q : HW w0 S w g pf v h) (hb : Below w.heap.size w w') : HW w0 S w' g pf v h := ⟨q.k.belowW hb, q.m.belowW hb⟩
theorem drewN (q : HW w0 S w g pf v h) (n : Nat) : HW w0 S (w.drewN n) g pf v h := q.belowW (below_drewN' (Below.refl _ _) n)
theorem bytes (q : HW w0 S w g pf v h) {n : Int} {m : Nat} (hn : n = (m : Int)) : HW w0 S (w.setCell ⟨g, 9, none⟩ (.int .i64 n)) g pf v { h with bytes := m } :=
  q.set_ 9 _ (by subst hn; simp [hCells]) rfl
theorem empty (q : HW w0 S w g pf v h) {n : Int} {m : Nat} (hn : n = (m : Int)) : HW w0 S (w.setCell ⟨g, 8, none⟩ (.int .i64 n)) g pf v { h with empty := m } :=
  q.set_ 8 _ (by subst hn; simp [hCells]) rfl
theorem status (q : HW w0 S w g pf v h) (n : Int) : HW w0 S (w.setCell ⟨g, 15, none⟩ (.int .i64 n)) g pf v { h with status := n } :=
  q.set_ 15 _ (by simp [hCells]) rfl
theorem whole (q : HW w0 S w g pf v h) (b : Bool) : HW w0 S (w.setCell ⟨g, 14, none⟩ (.bool b)) g pf v { h with whole := b } :=
  q.set_ 14 _ (by simp [hCells]) rfl
theorem ends (q : HW w0 S w g pf v h) {b : Bool} {n : Int} (hb : h.whole = b) (hn : h.status = n) : w.cell? ⟨g, 14, none⟩ = some (.bool b) ∧ w.cell? ⟨g, 15, none⟩ = some (.int .i64 n) :=
  ⟨by rw [← hb]; exact q.k.blk.cell 14, by rw [← hn]; exact q.k.blk.cell 15⟩
theorem hr (q : HW w0 S w g pf v h) : HR w g (hS g pf v) h := ⟨pf, v, rfl, q.k⟩
end HW
theorem hlp {w0 w : World} {S : Nat → Prop} {g pf : Nat} {v : Value} {h r : HS} {b : Bool} {n : Int} (q : HW w0 S w g pf v h) (hr : h = r) (hb : b = h.whole) (hn : n = h.status) : HLPost w0 g S r (.returned (.tuple #[.bool b, .int .i64 n])) w := by
  subst hr hb hn
  exact ⟨rfl, _, q.hr, q.m⟩
theorem hd_Line_long (g pf : Nat) (v : Value) (h : HS) (s : ByteArray) (w : World) (k : HK w g pf v h) (hi : HInv h) (ho : h.on = true) (hz : s.size ≤ 1000000) (hc : 256 < s.size ∨ 1024 < hB h s.data.toList) :
    Calls Tryz.prog 142 #[.pointer (some ⟨g, 0, none⟩), .string s] w (HLPost w g (hS g pf v) (hLine h s.data.toList)) := by
  obtain ⟨h1, h2⟩ := h.on_parts ho
  have hE := hLine_on h s.data.toList ho
  rw [if_pos (by rw [len_data]; exact hc)] at hE
  have HE := Lib.hid hE
  clear hE ho
  obtain ⟨b, hbb⟩ : ∃ b, b = hB h s.data.toList := ⟨_, rfl⟩
  have hbe : b = h.bytes + min s.size 257 + 2 := by rw [hbb]; unfold hB; rw [len_data]
  rw [← hbb] at HE hc
  clear hbb
  have q := HW.refl k
  have hb := k.blk
  unfold hCells at hb
  obtain ⟨⟨j0, j1, j2, j3, j4, j5, j6, j7, j8, j9, j10, j11, j12, j13, j14, j15⟩, i0, i1, i2, i3, i4, i5, i6, i7, i8, i9, i10, i11, i12, i13, i14, i15⟩ := Blk.c16 hb
  have hbn := hi.bytes
  have h1' := h1
  have h2' := h2
  rw [h1] at j14
  rw [h2] at j15
  clear hb k hi j0 j1 j2 j3 j4 j5 j6 j8 j10 j11 j12 j13 i0 i1 i2 i3 i4 i5 i6 i7 i8 i10 i11 i12 i13 h1 h2
  have H1 := Lib.hid h1'
  have H2 := Lib.hid h2'
  clear h1' h2'
  by_cases h256 : 256 < s.size
  · have hmin : min (s.size : Int) 257 = 257 := by omega
    obtain ⟨bg, hbg⟩ : ∃ bg, bg = h.begun := ⟨_, rfl⟩
    have HBg := Lib.hid hbg
    rw [← hbg] at HE j7
    clear hbg
    cases bg
    · go_enter Tryz.func142, Tryz.ntmps142
      go_wp2
      have q' := (q.bytes (n := (h.bytes : Int) + 259) (m := b) (by omega)).status 414
      obtain ⟨V, hV, q9⟩ : ∃ V, V = _ ∧ HW w (hS g pf v) V g pf v _ := ⟨_, rfl, q'⟩
      rw [← hV]
      clear hV q' q
      obtain ⟨c14, c15⟩ := q9.ends (b := false) (n := 414) H1.out rfl
      go_quiet (fail)
      go_wp2
      go_ret2
      exact hlp (q9.drewN _) (by rw [HE.out, ← HBg.out] <;> rfl) H1.out.symm rfl
    · go_enter Tryz.func142, Tryz.ntmps142
      go_wp2
      have q' := ((q.bytes (n := (h.bytes : Int) + 259) (m := b) (by omega)).status 414).status 431
      obtain ⟨V, hV, q9⟩ : ∃ V, V = _ ∧ HW w (hS g pf v) V g pf v _ := ⟨_, rfl, q'⟩
      rw [← hV]
      clear hV q' q
      obtain ⟨c14, c15⟩ := q9.ends (b := false) (n := 431) H1.out rfl
      go_quiet (fail)
      go_wp2
      go_ret2
      exact hlp (q9.drewN _) (by rw [HE.out, ← HBg.out] <;> rfl) H1.out.symm rfl
  · have hmin : min (s.size : Int) 257 = s.size := by omega
    obtain ⟨bg, hbg⟩ : ∃ bg, bg = h.begun := ⟨_, rfl⟩
    have HBg := Lib.hid hbg
    rw [← hbg] at HE j7
    clear hbg
    cases bg
    · go_enter Tryz.func142, Tryz.ntmps142
      go_wp2
      have q' := (q.bytes (n := (h.bytes : Int) + ((s.size : Int) + 2)) (m := b) (by omega)).status 414
      obtain ⟨V, hV, q9⟩ : ∃ V, V = _ ∧ HW w (hS g pf v) V g pf v _ := ⟨_, rfl, q'⟩
      rw [← hV]
      clear hV q' q
      obtain ⟨c14, c15⟩ := q9.ends (b := false) (n := 414) H1.out rfl
      go_quiet (fail)
      go_wp2
      go_ret2
      exact hlp (q9.drewN _) (by rw [HE.out, ← HBg.out] <;> rfl) H1.out.symm rfl
    · go_enter Tryz.func142, Tryz.ntmps142
      go_wp2
      have q' := ((q.bytes (n := (h.bytes : Int) + ((s.size : Int) + 2)) (m := b) (by omega)).status 414).status 431
      obtain ⟨V, hV, q9⟩ : ∃ V, V = _ ∧ HW w (hS g pf v) V g pf v _ := ⟨_, rfl, q'⟩
      rw [← hV]
      clear hV q' q
      obtain ⟨c14, c15⟩ := q9.ends (b := false) (n := 431) H1.out rfl
      go_quiet (fail)
      go_wp2
      go_ret2
      exact hlp (q9.drewN _) (by rw [HE.out, ← HBg.out] <;> rfl) H1.out.symm rfl
theorem HW.blk {w0 w w' : World} {S : Nat → Prop} {g pf : Nat} {v : Value} {h h' : HS} (q : HW w0 S w g pf v h) (hb : Blk w' g 105 (hCells h' pf)) (hf : Fr (fun k => k = g) w w') (hl : h'.flds = h.flds) : HW w0 S w' g pf v h' := by
  refine ⟨⟨hb, by rw [hl]; exact q.k.fa.fr hf (fun e => q.k.ne e.symm) (fun j hj e => q.k.no (by rw [hj, e])), q.k.ne, q.k.no⟩, ?_⟩
  have h1 : Moved (hS g pf v) (hS g pf v) w w' := ⟨hf.mono fun i hi => .inl (.inl hi), fun _ hi => .inl hi⟩
  exact q.m.trans h1
theorem hd_Line_empty (g pf : Nat) (v : Value) (h : HS) (s : ByteArray) (w : World) (k : HK w g pf v h) (hi : HInv h) (ho : h.on = true) (hs : s.size = 0) (hg : h.begun = false) (hc : ¬ (256 < s.size ∨ 1024 < hB h s.data.toList)) :
    Calls Tryz.prog 142 #[.pointer (some ⟨g, 0, none⟩), .string s] w (HLPost w g (hS g pf v) (hLine h s.data.toList)) := by
  obtain rfl : s = ⟨#[]⟩ := str_ext (List.eq_nil_of_length_eq_zero (by rw [len_data]; exact hs))
  obtain ⟨h1, h2⟩ := h.on_parts ho
  have hE := hLine_on h [] ho
  rw [if_neg (by exact hc)] at hE
  have HO := Lib.hid (hi.on h1 h2)
  clear ho
  obtain ⟨b, hbb⟩ : ∃ b, b = hB h [] := ⟨_, rfl⟩
  have hbe : b = h.bytes + min 0 257 + 2 := by rw [hbb]; unfold hB; rfl
  rw [← hbb] at hE hc
  clear hbb
  have q := HW.refl k
  have hb := k.blk
  unfold hCells at hb
  obtain ⟨⟨j0, j1, j2, j3, j4, j5, j6, j7, j8, j9, j10, j11, j12, j13, j14, j15⟩, i0, i1, i2, i3, i4, i5, i6, i7, i8, i9, i10, i11, i12, i13, i14, i15⟩ := Blk.c16 hb
  have hbn := hi.bytes
  have hemp := hi.empty
  rw [h1] at j14
  rw [h2] at j15
  have H1 := Lib.hid h1
  have H2 := Lib.hid h2
  clear h1 h2
  rw [if_pos hg, if_pos rfl] at hE
  have HE := Lib.hid hE
  rw [hg] at j7
  clear hE hb k hi hg j0 j1 j2 j3 j4 j5 j6 j10 j11 j12 j13 i0 i1 i2 i3 i4 i5 i6 i7 i10 i11 i12 i13
  have hbe2 : b = h.bytes + 2 := by rw [hbe]; rfl
  have hmin0 : min (0 : Int) 257 = 0 := rfl
  have hb10 : ¬ 1024 < b := fun h0 => hc (.inr h0)
  clear hbe hc
  by_cases h4 : 4 < h.empty + 1
  · go_enter Tryz.func142, Tryz.ntmps142
    go_wp2
    have q' := ((q.bytes (n := (h.bytes : Int) + 2) (m := b) (by omega)).empty (n := (h.empty : Int) + 1) (m := h.empty + 1) (by omega)).status 400
    obtain ⟨V, hV, q9⟩ : ∃ V, V = _ ∧ HW w (hS g pf v) V g pf v _ := ⟨_, rfl, q'⟩
    rw [← hV]
    clear hV q' q
    obtain ⟨c14, c15⟩ := q9.ends (b := false) (n := 400) H1.out rfl
    go_quiet (fail)
    go_wp2
    go_ret2
    exact hlp (q9.drewN _) (by rw [HE.out, if_pos h4]) H1.out.symm rfl
  · go_enter Tryz.func142, Tryz.ntmps142
    go_wp2
    have q' := ((q.bytes (n := (h.bytes : Int) + 2) (m := b) (by omega)).empty (n := (h.empty : Int) + 1) (m := h.empty + 1) (by omega))
    obtain ⟨V, hV, q9⟩ : ∃ V, V = _ ∧ HW w (hS g pf v) V g pf v _ := ⟨_, rfl, q'⟩
    rw [← hV]
    clear hV q' q
    obtain ⟨c14, c15⟩ := q9.ends (b := false) (n := 0) H1.out H2.out
    go_quiet (fail)
    go_wp2
    go_ret2
    exact hlp (q9.drewN _) (by rw [HE.out, if_neg h4, H2.out]) H1.out.symm H2.out.symm


theorem hd_Line_start (g pf : Nat) (v : Value) (h : HS) (s : ByteArray) (w : World) (k : HK w g pf v h) (hi : HInv h) (ho : h.on = true) (hs : 0 < s.size) (hg : h.begun = false) (hc : ¬ (256 < s.size ∨ 1024 < hB h s.data.toList)) (hm : ML w) (hh : Hi (hS g pf v)) :
    Calls Tryz.prog 142 #[.pointer (some ⟨g, 0, none⟩), .string s] w (HLPost w g (hS g pf v) (hLine h s.data.toList)) := by
  have hsn : s.data.toList ≠ [] := fun h0 => by have := len_data s; rw [h0] at this; simp at this; omega
  have hse : s.toList.isEmpty = false := by rw [ByteArray.toList_eq]; simpa using hsn
  obtain ⟨h1, h2⟩ := h.on_parts ho
  have hE := hLine_on h s.data.toList ho
  rw [if_neg (by rw [len_data]; exact hc)] at hE
  have HO := Lib.hid (hi.on h1 h2)
  clear ho
  obtain ⟨b, hbb⟩ : ∃ b, b = hB h s.data.toList := ⟨_, rfl⟩
  have hbe : b = h.bytes + min s.size 257 + 2 := by rw [hbb]; unfold hB; rw [len_data]
  rw [← hbb] at hE hc
  clear hbb
  have q := HW.refl k
  have hb := k.blk
  unfold hCells at hb
  obtain ⟨⟨j0, j1, j2, j3, j4, j5, j6, j7, j8, j9, j10, j11, j12, j13, j14, j15⟩, i0, i1, i2, i3, i4, i5, i6, i7, i8, i9, i10, i11, i12, i13, i14, i15⟩ := Blk.c16 hb
  have hbn := hi.bytes
  have hemp := hi.empty
  rw [h1] at j14
  rw [h2] at j15
  have H1 := Lib.hid h1
  have H2 := Lib.hid h2
  clear h1 h2
  rw [if_pos hg, if_neg hsn] at hE
  have HE := Lib.hid hE
  rw [hg] at j7
  clear hE hb k hi hsn j0 j1 j2 j3 j4 j5 j6 j10 j11 j12 j13 i0 i1 i2 i3 i4 i5 i6 i7 i10 i11 i12 i13
  have h256 : ¬ 256 < s.size := fun h0 => hc (.inl h0)
  have hb10 : ¬ 1024 < b := fun h0 => hc (.inr h0)
  have hmin : min (s.size : Int) 257 = s.size := by omega
  have hbe2 : b = h.bytes + (s.size + 2) := by omega
  have HG := Lib.hid hg
  clear hbe hc hg
  go_enter Tryz.func142, Tryz.ntmps142
  go_wp2_with fail
  have q' := q.bytes (n := (h.bytes : Int) + ((s.size : Int) + 2)) (m := b) (by omega)
  obtain ⟨V, hV, q9⟩ : ∃ V, V = _ ∧ HW w (hS g pf v) V g pf v _ := ⟨_, rfl, q'⟩
  have hmV : ML V := hm.fr q9.m.fr hh
  rw [← hV]
  clear hV q' q j7 j8 j9 j14 j15 i8 i9 i14 i15
  refine (hd_starts g pf _ s V q9.k.blk (by omega) hmV).mono ?_
  rintro e w2 ⟨rfl, hB2, hF2⟩
  have f15 := hB2.frozen 15
  have d14 : w2.cell? ⟨g, 14, none⟩ = some (.bool (stH _ s.data.toList).whole) := hB2.cell 14
  have d15 : w2.cell? ⟨g, 15, none⟩ = some (.int .i64 (stH _ s.data.toList).status) := hB2.cell 15
  obtain ⟨n, hn⟩ : ∃ n, n = (startL s.data.toList).1 := ⟨_, rfl⟩
  rw [← hn]
  by_cases h0 : n = 0
  · rw [stH_yes _ _ (by rw [← hn]; exact h0)] at hB2 d14 d15
    have q3 := q9.blk hB2 hF2 rfl
    have q4 := q3.status n
    rw [← hn, if_pos h0] at HE
    subst h0
    clear hn
    go_wp2
    obtain ⟨V3, hV3, q5⟩ : ∃ V3, V3 = _ ∧ HW w (hS g pf v) V3 g pf v _ := ⟨_, rfl, q4⟩
    rw [← hV3]
    clear hV3 q4 q3 d14 d15 f15
    obtain ⟨c14, c15⟩ := q5.ends (b := false) (n := 0) H1.out rfl
    go_quiet (fail)
    go_wp2
    go_ret2
    exact hlp (q5.drewN _) (by rw [HE.out, H2.out]) H1.out.symm rfl
  · rw [stH_no _ _ (by rw [← hn]; exact h0)] at hB2 d14 d15
    have q3 := q9.blk hB2 hF2 rfl
    have q4 := q3.status n
    rw [← hn, if_neg h0] at HE
    clear hn h0
    go_wp2
    obtain ⟨V3, hV3, q5⟩ : ∃ V3, V3 = _ ∧ HW w (hS g pf v) V3 g pf v _ := ⟨_, rfl, q4⟩
    rw [← hV3]
    clear hV3 q4 q3 d14 d15 f15
    obtain ⟨c14, c15⟩ := q5.ends (b := false) (n := n) H1.out rfl
    go_quiet (fail)
    go_wp2
    go_ret2
    exact hlp (q5.drewN _) (by rw [HE.out]) H1.out.symm rfl
end Go.Proofs.YtlambdccmfnloaaGreatDoor
namespace Go.Proofs.YtlambdccmfnloaaGreatDoor
open Go.RowKit
set_option maxRecDepth 100000
set_option maxHeartbeats 4000000

theorem HW.adds {w0 w w' : World} {S : Nat → Prop} {g pf : Nat} {v v' : Value} {h : HS} {l : List Fd} (q : HW w0 S w g pf v h) (hk : HK w' g pf v' { h with flds := l }) (hv : ∀ k, v'.ownBlock = some k → v.ownBlock = some k ∨ w.heap.size ≤ k) (hf : Fr (FS pf v) w w') : HW w0 S w' g pf v' { h with flds := l } := by
  refine ⟨hk, q.m.trans ⟨hf.mono fun i hi => .inl (.inr hi), fun i hi => ?_⟩⟩
  rcases hi with h1 | h1 | h1
  · exact .inl (.inl h1)
  · exact .inl (.inr (.inl h1))
  · rcases hv i h1 with h2 | h2
    · exact .inl (.inr (.inr h2))
    · exact .inr h2
theorem hd_Line_field (g pf : Nat) (v : Value) (h : HS) (s : ByteArray) (w : World) (k : HK w g pf v h) (hi : HInv h) (ho : h.on = true) (hs : 0 < s.size) (hg : h.begun = true) (hc : ¬ (256 < s.size ∨ 1024 < hB h s.data.toList)) (hm : ML w) (hh : Hi (hS g pf v)) :
    Calls Tryz.prog 142 #[.pointer (some ⟨g, 0, none⟩), .string s] w (HLPost w g (hS g pf v) (hLine h s.data.toList)) := by
  have hsn : s.data.toList ≠ [] := fun h0 => by have := len_data s; rw [h0] at this; simp at this; omega
  have hse : s.toList.isEmpty = false := by rw [ByteArray.toList_eq]; simpa using hsn
  obtain ⟨h1, h2⟩ := h.on_parts ho
  have hE := hLine_on h s.data.toList ho
  rw [if_neg (by rw [len_data]; exact hc)] at hE
  have HO := Lib.hid (hi.on h1 h2)
  clear ho
  obtain ⟨b, hbb⟩ : ∃ b, b = hB h s.data.toList := ⟨_, rfl⟩
  have hbe : b = h.bytes + min s.size 257 + 2 := by rw [hbb]; unfold hB; rw [len_data]
  rw [← hbb] at hE hc
  clear hbb
  have q := HW.refl k
  have hb := k.blk
  unfold hCells at hb
  obtain ⟨⟨j0, j1, j2, j3, j4, j5, j6, j7, j8, j9, j10, j11, j12, j13, j14, j15⟩, i0, i1, i2, i3, i4, i5, i6, i7, i8, i9, i10, i11, i12, i13, i14, i15⟩ := Blk.c16 hb
  have hbn := hi.bytes
  have hemp := hi.empty
  rw [h1] at j14
  rw [h2] at j15
  have H1 := Lib.hid h1
  have H2 := Lib.hid h2
  clear h1 h2
  rw [if_neg (by rw [hg]; decide), if_neg hsn] at hE
  have HE := Lib.hid hE
  rw [hg] at j7
  have hlen := hi.len
  clear hE hb k hi hsn j0 j1 j2 j3 j4 j5 j6 j10 j11 j12 j13 i0 i1 i2 i3 i4 i5 i6 i7 i10 i11 i12 i13
  have h256 : ¬ 256 < s.size := fun h0 => hc (.inl h0)
  have hb10 : ¬ 1024 < b := fun h0 => hc (.inr h0)
  have hmin : min (s.size : Int) 257 = s.size := by omega
  have hbe2 : b = h.bytes + (s.size + 2) := by omega
  clear hbe hc hg
  go_enter Tryz.func142, Tryz.ntmps142
  go_wp2_with fail
  have q' := q.bytes (n := (h.bytes : Int) + ((s.size : Int) + 2)) (m := b) (by omega)
  obtain ⟨V, hV, q9⟩ : ∃ V, V = _ ∧ HW w (hS g pf v) V g pf v _ := ⟨_, rfl, q'⟩
  have hmV : ML V := hm.fr q9.m.fr hh
  rw [← hV]
  clear hV q' q j7 j8 j9 j14 j15 i8 i9 i14 i15
  obtain ⟨r, hr⟩ : ∃ r, r = adL h.flds s.data.toList := ⟨_, rfl⟩
  have hC : Calls Tryz.prog 182 #[.pointer (some ⟨g, 0, none⟩), .string s] V (AddsPost V g pf v { h with bytes := b } r) := by
    rw [hr]; exact hd_adds g pf v { h with bytes := b } s V q9.k hlen hmV
  rw [← hr] at HE
  clear hr
  refine hC.mono ?_
  rintro e w2 ⟨rfl, v', hk2, hv2, hf2⟩
  have q3 := q9.adds hk2 hv2 hf2
  have f15 := hk2.blk.frozen 15
  have d14 := hk2.blk.cell 14
  have d15 := hk2.blk.cell 15
  have q4 := q3.status r.1
  clear hC hk2 hv2 hf2 q3
  go_wp2
  obtain ⟨V3, hV3, q5⟩ : ∃ V3, V3 = _ ∧ HW w (hS g pf v) V3 g pf v' _ := ⟨_, rfl, q4⟩
  rw [← hV3]
  clear hV3 q4 d14 d15 f15
  obtain ⟨c14, c15⟩ := q5.ends (b := false) (n := r.1) H1.out rfl
  go_quiet (fail)
  go_wp2
  go_ret2
  exact hlp (q5.drewN _) (by rw [HE.out]) H1.out.symm rfl
theorem HW.how {w0 w : World} {S : Nat → Prop} {g pf : Nat} {v : Value} {h : HS} (q : HW w0 S w g pf v h) (y : How) : HW w0 S ((((w.setCell ⟨g, 10, none⟩ (.int .i64 y.kind)).setCell ⟨g, 11, none⟩ (.int .i64 y.len)).setCell ⟨g, 12, none⟩ (.bool y.close)).setCell ⟨g, 13, none⟩ (.bool y.expect)) g pf v { h with how := y } := by
  have h1 : HW w0 S (w.setCell ⟨g, 10, none⟩ (.int .i64 y.kind)) g pf v { h with how := ⟨y.kind, h.how.len, h.how.close, h.how.expect⟩ } := q.set_ 10 _ (by simp [hCells]) rfl
  have h2 : HW w0 S _ g pf v { h with how := ⟨y.kind, y.len, h.how.close, h.how.expect⟩ } := h1.set_ 11 (.int .i64 y.len) (by simp [hCells]) rfl
  have h3 : HW w0 S _ g pf v { h with how := ⟨y.kind, y.len, y.close, h.how.expect⟩ } := h2.set_ 12 (.bool y.close) (by simp [hCells]) rfl
  exact h3.set_ 13 (.bool y.expect) (by simp [hCells]) rfl
abbrev S60 (g pf : Nat) (n : Int) (w : World) : Prop := w.cell? ⟨g, 6, none⟩ = some (.int .i64 n) ∧ w.cell? ⟨g, 0, none⟩ = some (.pointer (some ⟨pf, 0, none⟩))
theorem S60.set_ {g pf : Nat} {n : Int} {w : World} (h : S60 g pf n w) {j : Nat} {u : Value} (h6 : j ≠ 6) (h0 : j ≠ 0) : S60 g pf n (w.setCell ⟨g, j, none⟩ u) := by
  unfold S60 at *
  rw [World.cell?_setCell_other _ (⟨g, j, none⟩ : Addr) (⟨g, 6, none⟩ : Addr) _ (fun e => h6 (by injection e)), World.cell?_setCell_other _ (⟨g, j, none⟩ : Addr) (⟨g, 0, none⟩ : Addr) _ (fun e => h0 (by injection e))]
  exact h
theorem hd_Line_end (g pf : Nat) (v : Value) (h : HS) (s : ByteArray) (w : World) (k : HK w g pf v h) (hi : HInv h) (ho : h.on = true) (hs : s.size = 0) (hg : h.begun = true) (hc : ¬ (256 < s.size ∨ 1024 < hB h s.data.toList)) (hm : ML w) (hh : Hi (hS g pf v)) :
    Calls Tryz.prog 142 #[.pointer (some ⟨g, 0, none⟩), .string s] w (HLPost w g (hS g pf v) (hLine h s.data.toList)) := by
  obtain rfl : s = ⟨#[]⟩ := str_ext (List.eq_nil_of_length_eq_zero (by rw [len_data]; exact hs))
  obtain ⟨h1, h2⟩ := h.on_parts ho
  have hE := hLine_on h [] ho
  rw [if_neg (by exact hc)] at hE
  have HO := Lib.hid (hi.on h1 h2)
  clear ho
  obtain ⟨b, hbb⟩ : ∃ b, b = hB h [] := ⟨_, rfl⟩
  have hbe : b = h.bytes + min 0 257 + 2 := by rw [hbb]; unfold hB; rfl
  rw [← hbb] at hE hc
  clear hbb
  have q := HW.refl k
  have hb := k.blk
  unfold hCells at hb
  obtain ⟨⟨j0, j1, j2, j3, j4, j5, j6, j7, j8, j9, j10, j11, j12, j13, j14, j15⟩, i0, i1, i2, i3, i4, i5, i6, i7, i8, i9, i10, i11, i12, i13, i14, i15⟩ := Blk.c16 hb
  have hbn := hi.bytes
  have hemp := hi.empty
  rw [h1] at j14
  rw [h2] at j15
  have H1 := Lib.hid h1
  have H2 := Lib.hid h2
  clear h1 h2
  rw [if_neg (by rw [hg]; decide), if_pos rfl] at hE
  have HE := Lib.hid hE
  rw [hg] at j7
  have hlen := hi.len
  have hsz := hi.sz
  have hp : FP w (some ⟨pf, 0, none⟩) h.flds := .inr ⟨pf, rfl, k.fa.rd⟩
  clear hE hb hi hg j1 j2 j3 j4 j5 j8 i0 i1 i2 i3 i4 i5 i6 i7 i8
  have hbe2 : b = h.bytes + 2 := by rw [hbe]; rfl
  have hmin0 : min (0 : Int) 257 = 0 := rfl
  have hb10 : ¬ 1024 < b := fun h0 => hc (.inr h0)
  clear hbe hc
  obtain ⟨r, hr⟩ : ∃ r, r = frmL (decide (1 ≤ h.minor)) h.flds := ⟨_, rfl⟩
  have q9 := q.bytes (n := (h.bytes : Int) + 2) (m := b) (by omega)
  obtain ⟨V, hV⟩ : ∃ V, V = w.setCell ⟨g, 9, none⟩ (.int .i64 ((h.bytes : Int) + 2)) := ⟨_, rfl⟩
  rw [← hV] at q9
  have hmV : ML V := hm.fr q9.m.fr hh
  have hpV : FP V (some ⟨pf, 0, none⟩) h.flds := .inr ⟨pf, rfl, q9.k.fa.rd⟩
  have hC : ∀ n, Calls Tryz.prog 181 #[.int .i64 h.minor, .pointer (some ⟨pf, 0, none⟩)] (V.drewN n) fun e w' => e = .returned (howR r) ∧ Below V.heap.size V w' := fun n => by
    rw [hr]; exact (frm_Of h.minor (some ⟨pf, 0, none⟩) h.flds (V.drewN n) (hpV.belowW (below_drewN' (Below.refl _ _) n)) hlen hsz (hmV.drewN n)).mono fun e w' ⟨h1, h2⟩ => ⟨h1, stepW (below_drewN' (Below.refl _ _) n) h2⟩
  rw [← hr] at HE
  clear hr
  obtain ⟨y, st⟩ := r
  have hbV := q9.k.blk
  unfold hCells at hbV
  obtain ⟨⟨d0, d1, d2, d3, d4, d5, d6, d7, d8, d9, d10, d11, d12, d13, d14, d15⟩, f0, f1, f2, f3, f4, f5, f6, f7, f8, f9, f10, f11, f12, f13, f14, f15⟩ := Blk.c16 hbV
  clear hp hpV k hbV d1 d2 d3 d4 d5 d7 d8 d9 f0 f1 f2 f3 f4 f5 f6 f7 f8 f9
  go_enter Tryz.func142, Tryz.ntmps142
  go_wp2_with fail
  rw [← hV]
  clear hV j0 j6 j7 j9 j10 j11 j12 j13 j14 j15 i9 i10 i11 i12 i13 i14 i15 q
  have hgV := q9.k.blk.lt
  rw [show howR (y, st) = .tuple #[howV y, .int .i64 st] from rfl] at hC
  unfold howV at hC
  have hS0 : S60 g pf h.minor V := ⟨d6, d0⟩
  go_region_held3 (fun w' => w'.cell? ⟨g, 6, none⟩ = some (.int .i64 h.minor) ∧ w'.cell? ⟨g, 0, none⟩ = some (.pointer (some ⟨pf, 0, none⟩)))
    (first | with_reducible exact hS0 | with_reducible exact S4 | ((repeat (with_reducible refine S60.set_ ?_ (by decide) (by decide))); with_reducible exact S4) | go_keep)
    (first
      | (go_at_call 181
         refine (hC 0).mono ?_
         rintro e w4 ⟨rfl, L4⟩
         have q4 := q9.belowW L4
         have S4 : S60 g pf h.minor w4 := ⟨(L4.cell (p := ⟨g, 6, none⟩) hgV).trans d6, (L4.cell (p := ⟨g, 0, none⟩) hgV).trans d0⟩
         have hu := q4.k.blk
         unfold hCells at hu
         obtain ⟨⟨g0, g1, g2, g3, g4, g5, g6, g7, g8, g9, g10, g11, g12, g13, g14, g15⟩, e0, e1, e2, e3, e4, e5, e6, e7, e8, e9, e10, e11, e12, e13, e14, e15⟩ := Blk.c16 hu
         clear hu g0 g1 g2 g3 g4 g5 g6 g7 g8 g9 e0 e1 e2 e3 e4 e5 e6 e7 e8 e9)
      | (go_at_call 181
         refine (hC 1).mono ?_
         rintro e w4 ⟨rfl, L4⟩
         have q4 := q9.belowW L4
         have S4 : S60 g pf h.minor w4 := ⟨(L4.cell (p := ⟨g, 6, none⟩) hgV).trans d6, (L4.cell (p := ⟨g, 0, none⟩) hgV).trans d0⟩
         have hu := q4.k.blk
         unfold hCells at hu
         obtain ⟨⟨g0, g1, g2, g3, g4, g5, g6, g7, g8, g9, g10, g11, g12, g13, g14, g15⟩, e0, e1, e2, e3, e4, e5, e6, e7, e8, e9, e10, e11, e12, e13, e14, e15⟩ := Blk.c16 hu
         clear hu g0 g1 g2 g3 g4 g5 g6 g7 g8 g9 e0 e1 e2 e3 e4 e5 e6 e7 e8 e9))
  go_wp2_with fail
  have q5 := (((q4.how y).status st)).whole (st == 0)
  obtain ⟨V3, hV3, q6⟩ : ∃ V3, V3 = _ ∧ HW w (hS g pf v) V3 g pf v _ := ⟨_, rfl, q5⟩
  rw [← hV3]
  clear hV3 q4 q5 q9
  obtain ⟨c14, c15⟩ := q6.ends (b := st == 0) (n := st) rfl rfl
  go_quiet (fail)
  go_wp2
  go_ret2
  exact hlp (q6.drewN _) (by rw [HE.out]; congr 1) rfl rfl
end Go.Proofs.YtlambdccmfnloaaGreatDoor
namespace Go.Proofs.YtlambdccmfnloaaGreatDoor
open Go.RowKit
set_option maxRecDepth 100000
set_option maxHeartbeats 4000000

theorem hd_Line (g : Nat) (S : Nat → Prop) (h : HS) (s : ByteArray) (w : World) (k : HR w g S h) (hi : HInv h) (hz : s.size ≤ 1000000) (hm : ML w) (hh : Hi S) :
    Calls Tryz.prog 142 #[.pointer (some ⟨g, 0, none⟩), .string s] w (HLPost w g S (hLine h s.data.toList)) := by
  cases ho : h.on
  · rw [hLine_off h _ ho]
    exact hd_Line_off g S h s w k ho
  obtain ⟨pf, v, rfl, kk⟩ := k
  by_cases hc : 256 < s.size ∨ 1024 < hB h s.data.toList
  · exact hd_Line_long g pf v h s w kk hi ho hz hc
  cases hg : h.begun
  · rcases Nat.eq_zero_or_pos s.size with h0 | h0
    · exact hd_Line_empty g pf v h s w kk hi ho h0 hg hc
    · exact hd_Line_start g pf v h s w kk hi ho h0 hg hc hm hh
  · rcases Nat.eq_zero_or_pos s.size with h0 | h0
    · exact hd_Line_end g pf v h s w kk hi ho h0 hg hc hm hh
    · exact hd_Line_field g pf v h s w kk hi ho h0 hg hc hm hh
theorem hd_Line_nil (s : ByteArray) (w : World) :
    Calls Tryz.prog 142 #[.pointer none, .string s] w fun e w' => e = .returned (.tuple #[.bool false, .int .i64 0]) ∧ w = w' := by
  go_enter Tryz.func142, Tryz.ntmps142
  go_wp2
  go_ret2
  exact ⟨rfl, rfl⟩
theorem hd_Start_nil (w : World) :
    Calls Tryz.prog 55 #[.pointer none] w fun e w' => e = .returned (.tuple #[.string ⟨#[]⟩, tgtV tgt0, .int .i64 0]) ∧ Below w.heap.size w w' := by
  have LV : Below w.heap.size w (w.alloc (.cells #[.int .i64 0, .string ⟨#[]⟩, .string ⟨#[]⟩, .string ⟨#[]⟩] 23)) := allocW (Below.refl _ _) _
  obtain ⟨k0, k1, k2, k3, l0, l1, l2, l3⟩ := (Blk.new' w _ rfl 23 #[.int .i64 0, .string ⟨#[]⟩, .string ⟨#[]⟩, .string ⟨#[]⟩]).c4
  go_enter Tryz.func55, Tryz.ntmps55
  go_wp2
  refine bodyPost_ret (v := .tuple #[.string ⟨#[]⟩, tgtV tgt0, .int .i64 0]) (by simp [results, Tryz.results55, go_sem, tgt0]) rfl ⟨rfl, ?_⟩
  repeat refine setW ?_ (by simp) _
  exact LV
theorem hd_How_nil (w : World) :
    Calls Tryz.prog 53 #[.pointer none] w fun e w' => e = .returned (howV how0) ∧ Below w.heap.size w w' := by
  go_enter Tryz.func53, Tryz.ntmps53
  go_wp2_with fail
  refine bodyPost_ret (v := howV how0) (by simp [results, Tryz.results53, go_sem, how0]) rfl ⟨rfl, ?_⟩
  repeat refine setW ?_ (by simp) _
  exact allocW (Below.refl _ _) _
end Go.Proofs.YtlambdccmfnloaaGreatDoor
