/- usherref13: line, without the ways that add a field or end the head. usherref13: line, ahead of the start. usherref13: line, behind the start: a field. usherref13: line, the end of a head; line and Line. -/
import Derived.Test.YtlambdccmfnloaaGreatDoorRHw
import Derived.Test.YtlambdccmfnloaaGreatDoorRef12c
import Derived.Test.YtlambdccmfnloaaGreatDoorRFldP
namespace Go.Proofs.YtlambdccmfnloaaGreatDoor
open Go.RowKit
set_option maxRecDepth 100000
set_option maxHeartbeats 4000000

/-- From w0, where the head had the blocks S, to w: the reference's head at block g. -/
structure XW (w0 : World) (S : Nat → Prop) (w : World) (g : Nat) (v : Value) (h : HS) (bb : Nat) : Prop where
  k : FH w 134 g 0 v h.flds (xhCells h bb v)
  m : Moved S (FS g v) w0 w
namespace XW
variable {w0 w w' : World} {S : Nat → Prop} {g bb : Nat} {v : Value} {h : HS}
theorem refl (k : FH w 134 g 0 v h.flds (xhCells h bb v)) : XW w (FS g v) w g v h bb := ⟨k, Moved.refl _ _⟩
theorem set_ (q : XW w0 S w g v h bb) {h' : HS} {bb' : Nat} (i : Nat) (u : Value) (hc : (xhCells h bb v).setIfInBounds i u = xhCells h' bb' v) (hf : h'.flds = h.flds) : XW w0 S (w.setCell ⟨g, i, none⟩ u) g v h' bb' := by
  have hfr : Fr (fun k => k = g) w (w.setCell ⟨g, i, none⟩ u) := Fr.setCell (S := fun k => k = g) (Fr.refl _ w) (p := ⟨g, i, none⟩) (.inl rfl) u
  refine ⟨⟨by rw [← hc]; exact q.k.blk.set_ i u, rfl, by rw [hf]; exact Own.fr q.k.own hfr (fun j hj e => q.k.ne (by rw [hj, e])), q.k.lo, q.k.ne⟩, ?_⟩
  have h1 : Moved (FS g v) (FS g v) w (w.setCell ⟨g, i, none⟩ u) := (Moved.refl _ _).set_ (.inl rfl) u
  exact q.m.trans h1
theorem belowW (q : XW w0 S w g v h bb) (hb : Below w.heap.size w w') : XW w0 S w' g v h bb := ⟨q.k.belowW hb, q.m.belowW hb⟩
theorem drewN (q : XW w0 S w g v h bb) (n : Nat) : XW w0 S (w.drewN n) g v h bb := q.belowW (below_drewN' (Below.refl _ _) n)
theorem bytes (q : XW w0 S w g v h bb) {n : Int} {m : Nat} (hn : n = (m : Int)) : XW w0 S (w.setCell ⟨g, 14, none⟩ (.int .i64 n)) g v h m :=
  q.set_ 14 _ (by subst hn; simp [xhCells]) rfl
theorem empty (q : XW w0 S w g v h bb) {n : Int} {m : Nat} (hn : n = (m : Int)) : XW w0 S (w.setCell ⟨g, 15, none⟩ (.int .i64 n)) g v { h with empty := m } bb :=
  q.set_ 15 _ (by subst hn; simp [xhCells]) rfl
theorem status (q : XW w0 S w g v h bb) (n : Int) : XW w0 S (w.setCell ⟨g, 13, none⟩ (.int .i64 n)) g v { h with status := n } bb :=
  q.set_ 13 _ (by simp [xhCells]) rfl
theorem whole (q : XW w0 S w g v h bb) (b : Bool) : XW w0 S (w.setCell ⟨g, 12, none⟩ (.bool b)) g v { h with whole := b } bb :=
  q.set_ 12 _ (by simp [xhCells]) rfl
theorem how (q : XW w0 S w g v h bb) (y : How) : XW w0 S ((((w.setCell ⟨g, 7, none⟩ (.int .i64 y.kind)).setCell ⟨g, 8, none⟩ (.int .i64 y.len)).setCell ⟨g, 9, none⟩ (.bool y.close)).setCell ⟨g, 10, none⟩ (.bool y.expect)) g v { h with how := y } bb := by
  have h1 : XW w0 S (w.setCell ⟨g, 7, none⟩ (.int .i64 y.kind)) g v { h with how := ⟨y.kind, h.how.len, h.how.close, h.how.expect⟩ } bb := q.set_ 7 _ (by simp [xhCells]) rfl
  have h2 : XW w0 S _ g v { h with how := ⟨y.kind, y.len, h.how.close, h.how.expect⟩ } bb := h1.set_ 8 (.int .i64 y.len) (by simp [xhCells]) rfl
  have h3 : XW w0 S _ g v { h with how := ⟨y.kind, y.len, y.close, h.how.expect⟩ } bb := h2.set_ 9 (.bool y.close) (by simp [xhCells]) rfl
  exact h3.set_ 10 (.bool y.expect) (by simp [xhCells]) rfl
theorem re (q : XW w0 S w g v h bb) {h' : HS} (hc : xhCells h bb v = xhCells h' bb v) (hf : h'.flds = h.flds) : XW w0 S w g v h' bb := by
  obtain ⟨k, m⟩ := q
  refine ⟨?_, m⟩
  rw [← hc, hf]; exact k
theorem blk (q : XW w0 S w g v h bb) {h' : HS} {bb' : Nat} (hb : Blk w' g 134 (xhCells h' bb' v)) (hf : Fr (fun k => k = g) w w') (hl : h'.flds = h.flds) : XW w0 S w' g v h' bb' := by
  refine ⟨⟨hb, rfl, by rw [hl]; exact Own.fr q.k.own hf (fun j hj e => q.k.ne (by rw [hj, e])), q.k.lo, q.k.ne⟩, ?_⟩
  have h1 : Moved (FS g v) (FS g v) w w' := ⟨hf.mono fun i hi => .inl (.inl hi), fun _ hi => .inl hi⟩
  exact q.m.trans h1
end XW
/-- What 'line' made: all but the status. -/
def XLPost (w : World) (g : Nat) (v : Value) (r : HS) (e : Ending) (w' : World) : Prop :=
  e = .returned (.int .i64 r.status) ∧ ∃ v' bb, XW w (FS g v) w' g v' { r with status := 0 } bb ∧ (r.on = true → bb = r.bytes)
theorem xlp {w w' : World} {g bb : Nat} {v v' : Value} {h r : HS} {n : Int} (q : XW w (FS g v) w' g v' h bb) (hc : xhCells h bb v' = xhCells { r with status := 0 } bb v') (hf : r.flds = h.flds) (hn : n = r.status) (hb : r.on = true → bb = r.bytes) : XLPost w g v r (.returned (.int .i64 n)) w' := by
  subst hn
  exact ⟨rfl, v', bb, q.re hc hf, hb⟩
theorem off_of {r : HS} {n : Int} (h : r.status = n) (h0 : n ≠ 0) : r.on = false := by
  unfold HS.on; rw [h]; simp [h0]
theorem xh_line_long (g : Nat) (v : Value) (h : HS) (s : ByteArray) (w : World) (k : FH w 134 g 0 v h.flds (xhCells h h.bytes v)) (hi : HInv h) (ho : h.on = true) (hz : s.size ≤ 1000000) (hc : 256 < s.size ∨ 1024 < hB h s.data.toList) :
    Calls Tryz.prog 179 #[.pointer (some ⟨g, 0, none⟩), .string s] w (XLPost w g v (hLine h s.data.toList)) := by
  obtain ⟨h1, h2⟩ := h.on_parts ho
  have hE := hLine_on h s.data.toList ho
  rw [if_pos (by rw [len_data]; exact hc)] at hE
  have HE := Lib.hid hE
  clear hE ho
  obtain ⟨b, hbb⟩ : ∃ b, b = hB h s.data.toList := ⟨_, rfl⟩
  have hbe : b = h.bytes + min s.size 257 + 2 := by rw [hbb]; unfold hB; rw [len_data]
  rw [← hbb] at HE hc
  clear hbb
  have q := XW.refl k
  have hb := k.blk
  unfold xhCells at hb
  obtain ⟨⟨j0, j1, j2, j3, j4, j5, j6, j7, j8, j9, j10, j11, j12, j13, j14, j15⟩, i0, i1, i2, i3, i4, i5, i6, i7, i8, i9, i10, i11, i12, i13, i14, i15⟩ := Blk.c16 hb
  have hbn := hi.bytes
  have H1 := Lib.hid h1
  have H2 := Lib.hid h2
  clear hb k hi j0 j1 j2 j3 j4 j5 j6 j7 j8 j9 j10 j12 j13 j15 i0 i1 i2 i3 i4 i5 i6 i7 i8 i9 i10 i11 i12 i13 i15 h1 h2
  obtain ⟨bg, hbg⟩ : ∃ bg, bg = h.begun := ⟨_, rfl⟩
  have HBg := Lib.hid hbg
  rw [← hbg] at HE j11
  clear hbg
  by_cases h256 : 256 < s.size
  · cases bg
    · go_enter Tryz.func179, Tryz.ntmps179
      go_wp2
      go_ret
      exact xlp q (by rw [HE.out]; simp [xhCells, H2.out, HBg.out.symm]) (by rw [HE.out]) (by rw [HE.out] <;> rfl) (fun h9 => by rw [off_of (n := 414) (by rw [HE.out] <;> rfl) (by decide)] at h9; cases h9)
    · go_enter Tryz.func179, Tryz.ntmps179
      go_wp2
      go_ret
      exact xlp q (by rw [HE.out]; simp [xhCells, H2.out, HBg.out.symm]) (by rw [HE.out]) (by rw [HE.out] <;> rfl) (fun h9 => by rw [off_of (n := 431) (by rw [HE.out] <;> rfl) (by decide)] at h9; cases h9)
  · have hbe2 : b = h.bytes + s.size + 2 := by omega
    cases bg
    · go_enter Tryz.func179, Tryz.ntmps179
      go_wp2
      go_ret
      exact xlp (q.bytes (m := b) (by omega)) (by rw [HE.out]; simp [xhCells, H2.out, HBg.out.symm]) (by rw [HE.out]) (by rw [HE.out] <;> rfl) (fun h9 => by rw [off_of (n := 414) (by rw [HE.out] <;> rfl) (by decide)] at h9; cases h9)
    · go_enter Tryz.func179, Tryz.ntmps179
      go_wp2
      go_ret
      exact xlp (q.bytes (m := b) (by omega)) (by rw [HE.out]; simp [xhCells, H2.out, HBg.out.symm]) (by rw [HE.out]) (by rw [HE.out] <;> rfl) (fun h9 => by rw [off_of (n := 431) (by rw [HE.out] <;> rfl) (by decide)] at h9; cases h9)
end Go.Proofs.YtlambdccmfnloaaGreatDoor
namespace Go.Proofs.YtlambdccmfnloaaGreatDoor
open Go.RowKit
set_option maxRecDepth 100000
set_option maxHeartbeats 4000000

theorem xh_line_empty (g : Nat) (v : Value) (h : HS) (s : ByteArray) (w : World) (k : FH w 134 g 0 v h.flds (xhCells h h.bytes v)) (hi : HInv h) (ho : h.on = true) (hs : s.size = 0) (hg : h.begun = false) (hc : ¬ (256 < s.size ∨ 1024 < hB h s.data.toList)) :
    Calls Tryz.prog 179 #[.pointer (some ⟨g, 0, none⟩), .string s] w (XLPost w g v (hLine h s.data.toList)) := by
  obtain rfl : s = ⟨#[]⟩ := str_ext (List.eq_nil_of_length_eq_zero (by rw [len_data]; exact hs))
  obtain ⟨h1, h2⟩ := h.on_parts ho
  have hE := hLine_on h [] ho
  rw [if_neg (by exact hc)] at hE
  clear ho
  obtain ⟨b, hbb⟩ : ∃ b, b = hB h [] := ⟨_, rfl⟩
  have hbe : b = h.bytes + min 0 257 + 2 := by rw [hbb]; unfold hB; rfl
  rw [← hbb] at hE hc
  clear hbb
  have q := XW.refl k
  have hb := k.blk
  unfold xhCells at hb
  obtain ⟨⟨j0, j1, j2, j3, j4, j5, j6, j7, j8, j9, j10, j11, j12, j13, j14, j15⟩, i0, i1, i2, i3, i4, i5, i6, i7, i8, i9, i10, i11, i12, i13, i14, i15⟩ := Blk.c16 hb
  have hbn := hi.bytes
  have hemp := hi.empty
  have H1 := Lib.hid h1
  have H2 := Lib.hid h2
  clear h1 h2
  rw [if_pos hg, if_pos rfl] at hE
  have HE := Lib.hid hE
  rw [hg] at j11
  have HG := Lib.hid hg
  clear hE hb k hi hg j0 j1 j2 j3 j4 j5 j6 j7 j8 j9 j10 j12 j13 i0 i1 i2 i3 i4 i5 i6 i7 i8 i9 i10 i11 i12 i13
  have hbe2 : b = h.bytes + 2 := by rw [hbe]; rfl
  have hb10 : ¬ 1024 < b := fun h0 => hc (.inr h0)
  clear hbe hc
  by_cases h4 : 4 < h.empty + 1
  · go_enter Tryz.func179, Tryz.ntmps179
    go_wp2
    go_ret
    exact xlp ((q.bytes (m := b) (by omega)).empty (m := h.empty + 1) (by omega)) (by rw [HE.out]; simp [xhCells, H2.out]) (by rw [HE.out]) (by rw [HE.out]; exact (if_pos h4).symm) (fun h9 => by rw [HE.out])
  · go_enter Tryz.func179, Tryz.ntmps179
    go_wp2
    go_ret
    exact xlp ((q.bytes (m := b) (by omega)).empty (m := h.empty + 1) (by omega)) (by rw [HE.out]; simp [xhCells, H2.out]) (by rw [HE.out]) (by rw [HE.out]; exact (if_neg h4).symm) (fun h9 => by rw [HE.out])
theorem xh_line_start (g : Nat) (v : Value) (h : HS) (s : ByteArray) (w : World) (k : FH w 134 g 0 v h.flds (xhCells h h.bytes v)) (hi : HInv h) (ho : h.on = true) (hs : 0 < s.size) (hg : h.begun = false) (hc : ¬ (256 < s.size ∨ 1024 < hB h s.data.toList)) :
    Calls Tryz.prog 179 #[.pointer (some ⟨g, 0, none⟩), .string s] w (XLPost w g v (hLine h s.data.toList)) := by
  have hsn : s.data.toList ≠ [] := fun h0 => by have := len_data s; rw [h0] at this; simp at this; omega
  have hse : s.toList.isEmpty = false := by rw [ByteArray.toList_eq]; simpa using hsn
  obtain ⟨h1, h2⟩ := h.on_parts ho
  have hE := hLine_on h s.data.toList ho
  rw [if_neg (by rw [len_data]; exact hc)] at hE
  clear ho
  obtain ⟨b, hbb⟩ : ∃ b, b = hB h s.data.toList := ⟨_, rfl⟩
  have hbe : b = h.bytes + min s.size 257 + 2 := by rw [hbb]; unfold hB; rw [len_data]
  rw [← hbb] at hE hc
  clear hbb
  have q := XW.refl k
  have hb := k.blk
  unfold xhCells at hb
  obtain ⟨⟨j0, j1, j2, j3, j4, j5, j6, j7, j8, j9, j10, j11, j12, j13, j14, j15⟩, i0, i1, i2, i3, i4, i5, i6, i7, i8, i9, i10, i11, i12, i13, i14, i15⟩ := Blk.c16 hb
  have hbn := hi.bytes
  have hemp := hi.empty
  have H1 := Lib.hid h1
  have H2 := Lib.hid h2
  clear h1 h2
  rw [if_pos hg, if_neg hsn] at hE
  have HE := Lib.hid hE
  rw [hg] at j11
  have hmi := hi.fr hg
  have HG := Lib.hid hg
  clear hE hb k hi hsn hg j0 j1 j2 j3 j4 j5 j6 j7 j8 j9 j10 j12 j13 i0 i1 i2 i3 i4 i5 i6 i7 i8 i9 i10 i11 i12 i13
  have h256 : ¬ 256 < s.size := fun h0 => hc (.inl h0)
  have hb10 : ¬ 1024 < b := fun h0 => hc (.inr h0)
  have hbe2 : b = h.bytes + s.size + 2 := by omega
  clear hbe hc
  have q' := q.bytes (n := (h.bytes : Int) + (s.size : Int) + 2) (m := b) (by omega)
  obtain ⟨V, hV, q9⟩ : ∃ V, V = _ ∧ XW w (FS g v) V g v h b := ⟨_, rfl, q'⟩
  have hC := xh_start g b v h s V q9.k.blk (by omega) hmi
  rw [hV] at hC
  obtain ⟨r, hr⟩ : ∃ r, r = startL s.data.toList := ⟨_, rfl⟩
  unfold XStartPost at hC
  go_enter Tryz.func179, Tryz.ntmps179
  go_wp2_with fail
  refine hC.mono ?_
  rintro e w2 ⟨rfl, hB2, hF2⟩
  rw [← hV] at hF2
  by_cases h0 : (startL s.data.toList).1 = 0
  · rw [stH_yes _ _ h0] at hB2
    have q3 := q9.blk hB2 hF2 rfl
    rw [if_pos h0] at HE
    clear hC hB2 hF2
    have H0 := Lib.hid h0
    clear h0
    go_wp2
    go_ret
    exact xlp q3 (by rw [HE.out]; simp [xhCells, H2.out]) (by rw [HE.out]) (by rw [HE.out, H0.out, H2.out]) (fun h9 => by rw [HE.out])
  · rw [stH_no _ _ h0] at hB2
    have q3 := q9.blk hB2 hF2 rfl
    rw [if_neg h0] at HE
    clear hC hB2 hF2
    have H0 := Lib.hid h0
    clear h0
    go_wp2
    go_ret
    exact xlp q3 (by rw [HE.out]; simp [xhCells, H2.out]) (by rw [HE.out]) (by rw [HE.out]) (fun h9 => by rw [HE.out])
end Go.Proofs.YtlambdccmfnloaaGreatDoor
namespace Go.Proofs.YtlambdccmfnloaaGreatDoor
open Go.RowKit
set_option maxRecDepth 100000
set_option maxHeartbeats 4000000

theorem XW.adds {w0 w w' : World} {S : Nat → Prop} {g bb : Nat} {v v' : Value} {h : HS} {l : List Fd} (q : XW w0 S w g v h bb) (hk : FH w' 134 g 0 v' l ((xhCells h bb v).setIfInBounds 0 v')) (hv : ∀ k, v'.ownBlock = some k → v.ownBlock = some k ∨ w.heap.size ≤ k) (hf : Fr (FS g v) w w') : XW w0 S w' g v' { h with flds := l } bb := by
  refine ⟨?_, q.m.trans ⟨hf, fun i hi => ?_⟩⟩
  · have e : (xhCells h bb v).setIfInBounds 0 v' = xhCells { h with flds := l } bb v' := by simp [xhCells]
    rw [← e]; exact hk
  · rcases hi with h1 | h1
    · exact .inl (.inl h1)
    · rcases hv i h1 with h2 | h2
      · exact .inl (.inr h2)
      · exact .inr h2
theorem adL_none (l : List Fd) (s : Bs) (h : parseF s = none) : adL l s = (400, l) := by unfold adL; rw [h]
theorem adL_full (l : List Fd) (s : Bs) (f : Fd) (h : parseF s = some f) (h2 : 24 ≤ l.length) : adL l s = (431, l) := by unfold adL; rw [h]; exact if_pos h2
theorem adL_one (l : List Fd) (s : Bs) (f : Fd) (h : parseF s = some f) (h2 : ¬ 24 ≤ l.length) : adL l s = (0, l ++ [f]) := by unfold adL; rw [h]; exact if_neg h2
theorem xh_line_field (g : Nat) (v : Value) (h : HS) (s : ByteArray) (w : World) (k : FH w 134 g 0 v h.flds (xhCells h h.bytes v)) (hi : HInv h) (ho : h.on = true) (hs : 0 < s.size) (hg : h.begun = true) (hc : ¬ (256 < s.size ∨ 1024 < hB h s.data.toList)) :
    Calls Tryz.prog 179 #[.pointer (some ⟨g, 0, none⟩), .string s] w (XLPost w g v (hLine h s.data.toList)) := by
  have hsn : s.data.toList ≠ [] := fun h0 => by have := len_data s; rw [h0] at this; simp at this; omega
  have hse : s.toList.isEmpty = false := by rw [ByteArray.toList_eq]; simpa using hsn
  obtain ⟨h1, h2⟩ := h.on_parts ho
  have hE := hLine_on h s.data.toList ho
  rw [if_neg (by rw [len_data]; exact hc)] at hE
  clear ho
  obtain ⟨b, hbb⟩ : ∃ b, b = hB h s.data.toList := ⟨_, rfl⟩
  have hbe : b = h.bytes + min s.size 257 + 2 := by rw [hbb]; unfold hB; rw [len_data]
  rw [← hbb] at hE hc
  clear hbb
  have q := XW.refl k
  have hb := k.blk
  unfold xhCells at hb
  obtain ⟨⟨j0, j1, j2, j3, j4, j5, j6, j7, j8, j9, j10, j11, j12, j13, j14, j15⟩, i0, i1, i2, i3, i4, i5, i6, i7, i8, i9, i10, i11, i12, i13, i14, i15⟩ := Blk.c16 hb
  have hbn := hi.bytes
  have hemp := hi.empty
  have H1 := Lib.hid h1
  have H2 := Lib.hid h2
  clear h1 h2
  rw [if_neg (by rw [hg]; decide), if_neg hsn] at hE
  have HE := Lib.hid hE
  rw [hg] at j11
  have hlen := hi.len
  have HG := Lib.hid hg
  clear hE hb k hi hsn hg j0 j1 j2 j3 j4 j5 j6 j7 j8 j9 j10 j12 j13 j15 i0 i1 i2 i3 i4 i5 i6 i7 i8 i9 i10 i11 i12 i13 i15
  have h256 : ¬ 256 < s.size := fun h0 => hc (.inl h0)
  have hb10 : ¬ 1024 < b := fun h0 => hc (.inr h0)
  have hbe2 : b = h.bytes + s.size + 2 := by omega
  clear hbe hc
  have q' := q.bytes (n := (h.bytes : Int) + (s.size : Int) + 2) (m := b) (by omega)
  obtain ⟨V, hV, q9⟩ : ∃ V, V = _ ∧ XW w (FS g v) V g v h b := ⟨_, rfl, q'⟩
  have hP := ref10_Parse s V
  rw [hV] at hP
  go_enter Tryz.func179, Tryz.ntmps179
  go_wp2_with fail
  refine hP.mono ?_
  rintro e w1 ⟨⟨N, M, er, rfl, hP1⟩, L1⟩
  rw [← hV] at L1
  have q1 := q9.belowW L1
  clear hP hV q' j11 j14 i14
  rcases hP1 with ⟨hP1, rfl⟩ | ⟨hP1, her⟩
  · obtain ⟨hif, z1, z2⟩ := parseF_sz _ _ hP1
    have HP1 := Lib.hid hP1
    clear hP1
    have LA := allocW (Below.refl w1.heap.size w1) (.cells #[.string N, .string M] 72)
    obtain ⟨U, hU⟩ : ∃ U, U = w1.alloc (.cells #[.string N, .string M] 72) := ⟨_, rfl⟩
    have BU : Blk U w1.heap.size 72 #[.string N, .string M] := by rw [hU]; exact Blk.new' _ _ rfl _ _
    rw [← hU] at LA
    have qU := q1.belowW LA
    have hq1 : ¬ w1.heap.size = g := fun e => by have := q1.k.blk.lt; omega
    have hq2 : ¬ v.ownBlock = some w1.heap.size := fun h1 => Nat.lt_irrefl _ (Own.lt2 q1.k.own h1)
    go_wp2_with fail
    rw [← hU]
    obtain ⟨q2, hqq⟩ : ∃ q2, q2 = w1.heap.size := ⟨_, rfl⟩
    rw [← hqq] at BU hq1 hq2 ⊢
    clear hU LA hqq
    obtain ⟨x0, x1, y0, y1⟩ := BU.c2
    have hqU := BU.lt
    obtain ⟨W3, hW3⟩ : ∃ W3, W3 = (U.alloc (.cells #[.string N, .string M] 72)).drew := ⟨_, rfl⟩
    have L3 : Below U.heap.size U W3 := by rw [hW3]; exact (allocW (Below.refl U.heap.size U) _).drew
    have hr3 : Rd W3 (U.heap.size + 1) 2 (some ⟨U.heap.size, 0, none⟩) 1 (fcells [(N.data.toList, M.data.toList)]) := by
      rw [hW3]; exact (Rd.newM U _ rfl (fcells [(N.data.toList, M.data.toList)]) _ _ 1 2 rfl).below ((Below.refl _ _).drew)
    have hs3 : U.heap.size + 1 ≤ W3.heap.size := by rw [hW3]; simp
    have hne3 : 0 < 1 → ∀ a, (some ⟨U.heap.size, 0, none⟩ : Option Addr) = some a → ¬ FS g v a.block := fun _ a ha hs => by
      injection ha with ha
      subst ha
      rcases hs with h1 | h1
      · have h1 : U.heap.size = g := h1
        have := qU.k.blk.lt; omega
      · exact Nat.lt_irrefl _ (Own.lt2 qU.k.own (show v.ownBlock = some U.heap.size from h1))
    have q3 := qU.belowW L3
    have hC := ref10_AddH g 0 1 1 _ _ _ _ v h.flds [(N.data.toList, M.data.toList)] W3 q3.k hr3 hs3 hne3 (fun f hf => by rw [List.mem_singleton] at hf; subst hf; exact ⟨Nat.le_trans z1 (by decide), Nat.le_trans z2 (by decide)⟩) hlen (Nat.zero_le _) (by decide)
    have hq3 : q2 < W3.heap.size := Nat.lt_of_lt_of_le hqU L3.size
    have c1 : W3.cell? ⟨q2, 0, none⟩ = some (.string N) := (L3.cell (p := ⟨q2, 0, none⟩) hqU).trans x0
    have c2 : W3.cell? ⟨q2, 1, none⟩ = some (.string M) := (L3.cell (p := ⟨q2, 1, none⟩) hqU).trans x1
    by_cases h24 : 24 ≤ h.flds.length
    · rw [addL_full _ _ _ _ hif h24] at hC
      have HA := Lib.hid (adL_full _ _ _ HP1.out h24)
      unfold AddPostH addV at hC
      rw [hW3] at hC
      clear h24
      go_region_held3 (fun w' => w'.cell? ⟨q2, 0, none⟩ = some (.string N) ∧ w'.cell? ⟨q2, 1, none⟩ = some (.string M))
        (first | go_keep | exact S4)
        (first
          | (go_at_call 210
             refine hC.mono ?_
             rintro e w4 ⟨rfl, ⟨v', hF4, hv4⟩, hfr⟩
             rw [← hW3] at hfr hv4
             have S4 : w4.cell? ⟨q2, 0, none⟩ = some (.string N) ∧ w4.cell? ⟨q2, 1, none⟩ = some (.string M) := ⟨(hfr.cell (p := ⟨q2, 0, none⟩) hq3 (fun h1 => h1.elim hq1 hq2)).trans c1, (hfr.cell (p := ⟨q2, 1, none⟩) hq3 (fun h1 => h1.elim hq1 hq2)).trans c2⟩))
      have q4 := q3.adds hF4 hv4 hfr
      go_wp2
      go_ret
      exact xlp q4 (by rw [HE.out, HA.out]; simp [xhCells, H2.out]) (by rw [HE.out, HA.out]) (by rw [HE.out, HA.out]) (fun h9 => by rw [HE.out])
    · rw [addL_one _ _ _ _ hif (by omega), addL_nil] at hC
      have HA := Lib.hid (adL_one _ _ _ HP1.out h24)
      unfold AddPostH addV at hC
      rw [hW3] at hC
      clear h24
      go_region_held3 (fun w' => w'.cell? ⟨q2, 0, none⟩ = some (.string N) ∧ w'.cell? ⟨q2, 1, none⟩ = some (.string M))
        (first | go_keep | exact S4)
        (first
          | (go_at_call 210
             refine hC.mono ?_
             rintro e w4 ⟨rfl, ⟨v', hF4, hv4⟩, hfr⟩
             rw [← hW3] at hfr hv4
             have S4 : w4.cell? ⟨q2, 0, none⟩ = some (.string N) ∧ w4.cell? ⟨q2, 1, none⟩ = some (.string M) := ⟨(hfr.cell (p := ⟨q2, 0, none⟩) hq3 (fun h1 => h1.elim hq1 hq2)).trans c1, (hfr.cell (p := ⟨q2, 1, none⟩) hq3 (fun h1 => h1.elim hq1 hq2)).trans c2⟩))
      have q4 := q3.adds hF4 hv4 hfr
      go_wp2
      go_ret
      exact xlp q4 (by rw [HE.out, HA.out]; simp [xhCells, H2.out]) (by rw [HE.out, HA.out]) (by rw [HE.out, HA.out]) (fun h9 => by rw [HE.out])
  · have HA := Lib.hid (adL_none h.flds _ hP1)
    clear hP1
    have q2 := q1.belowW (allocW (Below.refl w1.heap.size w1) (.cells #[.string N, .string M] 72))
    rcases her with rfl | rfl
    all_goals
      go_wp2
      go_ret
      exact xlp q2 (by rw [HE.out, HA.out]; simp [xhCells, H2.out]) (by rw [HE.out, HA.out]) (by rw [HE.out, HA.out]) (fun h9 => by rw [HE.out])
end Go.Proofs.YtlambdccmfnloaaGreatDoor
namespace Go.Proofs.YtlambdccmfnloaaGreatDoor
open Go.RowKit
set_option maxRecDepth 100000
set_option maxHeartbeats 4000000

theorem xh_line_end (g : Nat) (v : Value) (h : HS) (s : ByteArray) (w : World) (k : FH w 134 g 0 v h.flds (xhCells h h.bytes v)) (hi : HInv h) (ho : h.on = true) (hs : s.size = 0) (hg : h.begun = true) (hc : ¬ (256 < s.size ∨ 1024 < hB h s.data.toList)) :
    Calls Tryz.prog 179 #[.pointer (some ⟨g, 0, none⟩), .string s] w (XLPost w g v (hLine h s.data.toList)) := by
  obtain rfl : s = ⟨#[]⟩ := str_ext (List.eq_nil_of_length_eq_zero (by rw [len_data]; exact hs))
  obtain ⟨h1, h2⟩ := h.on_parts ho
  have hE := hLine_on h [] ho
  rw [if_neg (by exact hc)] at hE
  clear ho
  obtain ⟨b, hbb⟩ : ∃ b, b = hB h [] := ⟨_, rfl⟩
  have hbe : b = h.bytes + min 0 257 + 2 := by rw [hbb]; unfold hB; rfl
  rw [← hbb] at hE hc
  clear hbb
  have q := XW.refl k
  have hb := k.blk
  unfold xhCells at hb
  obtain ⟨⟨j0, j1, j2, j3, j4, j5, j6, j7, j8, j9, j10, j11, j12, j13, j14, j15⟩, i0, i1, i2, i3, i4, i5, i6, i7, i8, i9, i10, i11, i12, i13, i14, i15⟩ := Blk.c16 hb
  have hbn := hi.bytes
  have hemp := hi.empty
  have H1 := Lib.hid h1
  have H2 := Lib.hid h2
  clear h1 h2
  rw [if_neg (by rw [hg]; decide), if_pos rfl] at hE
  have HE := Lib.hid hE
  rw [hg] at j11
  have HG := Lib.hid hg
  have hlen := hi.len
  have hsz := hi.sz
  have hm0 := hi.m0
  have hm1 := hi.m1
  clear hE hb k hi hg j0 j1 j2 j3 j4 j5 j6 j7 j8 j9 j10 j12 j13 j15 i0 i1 i2 i3 i4 i5 i6 i7 i8 i9 i10 i11 i12 i13 i15
  have hbe2 : b = h.bytes + 2 := by rw [hbe]; rfl
  have hb10 : ¬ 1024 < b := fun h0 => hc (.inr h0)
  clear hbe hc
  obtain ⟨r, hr⟩ : ∃ r, r = frmL (decide (1 ≤ h.minor)) h.flds := ⟨_, rfl⟩
  have q' := q.bytes (n := (h.bytes : Int) + 2) (m := b) (by omega)
  obtain ⟨V, hV, q9⟩ : ∃ V, V = _ ∧ XW w (FS g v) V g v h b := ⟨_, rfl, q'⟩
  have hOf : ∀ W, Below V.heap.size V W → Calls Tryz.prog 209 #[.int .i64 h.minor, .pointer (some ⟨g, 0, none⟩)] W fun e w' => e = .returned (howR r) ∧ Below W.heap.size W w' := fun W hb => by
    rw [hr]; exact r12_Of h.minor (some ⟨g, 0, none⟩) h.flds W (.inr ⟨g, rfl, (q9.k.belowW hb).rd _⟩) hlen hsz (by omega) (by omega)
  rw [← hr] at HE
  clear hr q'
  obtain ⟨y, st⟩ := r
  have hbV := q9.k.blk
  unfold xhCells at hbV
  obtain ⟨⟨d0, d1, d2, d3, d4, d5, d6, d7, d8, d9, d10, d11, d12, d13, d14, d15⟩, f0, f1, f2, f3, f4, f5, f6, f7, f8, f9, f10, f11, f12, f13, f14, f15⟩ := Blk.c16 hbV
  have hgV := q9.k.blk.lt
  rw [show howR (y, st) = .tuple #[howV y, .int .i64 st] from rfl] at hOf
  have BV : Blk (V.alloc (.cells #[.int .i64 0, .int .i64 0, .bool false, .bool false] 87)).drew V.heap.size 87 #[.int .i64 0, .int .i64 0, .bool false, .bool false] := (Blk.new' _ _ rfl _ _).belowW ((Below.refl _ _).drew)
  have LV : Below V.heap.size V (V.alloc (.cells #[.int .i64 0, .int .i64 0, .bool false, .bool false] 87)).drew := (allocW (Below.refl V.heap.size V) _).drew
  have LD : Below V.heap.size V V.drew := (Below.refl V.heap.size V).drew
  have v6 := (LV.cell (p := ⟨g, 6, none⟩) hgV).trans d6
  have hsV := LV.size
  have hgn : ¬ g = V.heap.size := by omega
  have hgn2 : ¬ V.heap.size = g := by omega
  clear hbV d0 d1 d2 d3 d4 d5 d7 d8 d9 d10 d11 d12 d13 d14 d15 f0 f1 f2 f3 f4 f5 f6 f7 f8 f9 f10 f11 f12 f13 f14 f15
  go_enter Tryz.func179, Tryz.ntmps179
  go_upto_region 17 with (fail)
  go_cut [6, 7] (fun v6 v7 wx => ∃ tb, v6 = .pointer (some ⟨tb, 0, none⟩) ∧ v7 = .int .i64 st ∧ Blk wx tb 87 #[.int .i64 y.kind, .int .i64 y.len, .bool y.close, .bool y.expect] ∧ g < tb ∧ XW w (FS g v) wx g v h b)
  case first =>
    rw [← hV]
    clear hV j11 j14 i14 q
    unfold howV at hOf
    go_region_held3 (fun w' => w'.cell? ⟨g, 6, none⟩ = some (.int .i64 h.minor))
      (first | go_keep | exact S5)
      (first
        | (go_at_call 209
           refine (hOf (V.alloc (.cells #[.int .i64 0, .int .i64 0, .bool false, .bool false] 87)).drew LV).mono ?_
           rintro e w5 ⟨rfl, L5⟩
           have L5' := stepW LV L5
           have S5 : w5.cell? ⟨g, 6, none⟩ = some (.int .i64 h.minor) := (L5'.cell (p := ⟨g, 6, none⟩) hgV).trans d6
           have B5 := BV.belowW L5
           obtain ⟨k0, k1, k2, k3, l0, l1, l2, l3⟩ := B5.c4)
        | (go_at_call 209
           refine (hOf V.drew LD).mono ?_
           rintro e w5 ⟨rfl, L5⟩
           have L5' := stepW LD L5
           have S5 : w5.cell? ⟨g, 6, none⟩ = some (.int .i64 h.minor) := (L5'.cell (p := ⟨g, 6, none⟩) hgV).trans d6))
    all_goals go_wp2_with fail
    all_goals go_meet
    all_goals case rel =>
      first
        | (have BB5 := B5
           exact ⟨_, rfl, rfl, Blk.set4 BB5 _ _ _ _, hgV, q9.belowW (below_set4 L5' (Nat.le_refl _) _ _ _ _)⟩)
        | exact ⟨_, rfl, rfl, Blk.new' _ _ rfl _ _, Nat.lt_of_lt_of_le hgV L5'.size, q9.belowW (allocW L5' _)⟩
  case rest =>
    obtain ⟨tb, rfl, rfl, BT, htb, q3⟩ := hcut
    obtain ⟨wx, rfl⟩ : ∃ wx, wx = wc := ⟨_, rfl⟩
    have hbx := q3.k.blk
    unfold xhCells at hbx
    obtain ⟨⟨j0, j1, j2, j3, j4, j5, j6, j7, j8, j9, j10, j11, j12, j13, j14, j15⟩, i0, i1, i2, i3, i4, i5, i6, i7, i8, i9, i10, i11, i12, i13, i14, i15⟩ := Blk.c16 hbx
    obtain ⟨k0, k1, k2, k3, l0, l1, l2, l3⟩ := BT.c4
    have hgt : ¬ g = tb := by omega
    have hgt2 : ¬ tb = g := by omega
    clear hOf BV LV LD v6 hsV q9 hV hbx j0 j1 j2 j3 j4 j5 j6 j13 j14 j15 i0 i1 i2 i3 i4 i5 i6 i13 i14 i15 BT q hgV
    have q5 := (q3.how y).whole (st == 0)
    clear q3
    go_wp2
    go_ret
    exact xlp q5 (by rw [HE.out]; simp [xhCells, H2.out]; rfl) (by rw [HE.out]) (by rw [HE.out]) (fun h9 => by rw [HE.out])
theorem xh_line (g : Nat) (v : Value) (h : HS) (s : ByteArray) (w : World) (k : FH w 134 g 0 v h.flds (xhCells h h.bytes v)) (hi : HInv h) (ho : h.on = true) (hz : s.size ≤ 1000000) :
    Calls Tryz.prog 179 #[.pointer (some ⟨g, 0, none⟩), .string s] w (XLPost w g v (hLine h s.data.toList)) := by
  by_cases hc : 256 < s.size ∨ 1024 < hB h s.data.toList
  · exact xh_line_long g v h s w k hi ho hz hc
  cases hg : h.begun
  · rcases Nat.eq_zero_or_pos s.size with h0 | h0
    · exact xh_line_empty g v h s w k hi ho h0 hg hc
    · exact xh_line_start g v h s w k hi ho h0 hg hc
  · rcases Nat.eq_zero_or_pos s.size with h0 | h0
    · exact xh_line_end g v h s w k hi ho h0 hg hc
    · exact xh_line_field g v h s w k hi ho h0 hg hc
/-- The reference's head at block g, with the blocks S. -/
def XHR (w : World) (g : Nat) (S : Nat → Prop) (h : HS) : Prop := ∃ v bb, S = FS g v ∧ FH w 134 g 0 v h.flds (xhCells h bb v) ∧ (h.on = true → bb = h.bytes)
theorem XHR.belowW {w w' : World} {g : Nat} {S : Nat → Prop} {h : HS} (k : XHR w g S h) (hb : Below w.heap.size w w') : XHR w' g S h := by
  obtain ⟨v, bb, e, k, hbb⟩ := k; exact ⟨v, bb, e, k.belowW hb, hbb⟩
theorem XHR.fr {w w' : World} {g : Nat} {S T : Nat → Prop} {h : HS} (k : XHR w g S h) (hf : Fr T w w') (hs : ∀ i, S i → ¬ T i) : XHR w' g S h := by
  obtain ⟨v, bb, rfl, k, hbb⟩ := k; exact ⟨v, bb, rfl, k.fr hf (hs g (.inl rfl)) (fun i hi => hs i (.inr hi)), hbb⟩
theorem XHR.lt {w : World} {g : Nat} {S : Nat → Prop} {h : HS} (k : XHR w g S h) {i : Nat} (hi : S i) : i < w.heap.size := by
  obtain ⟨v, bb, rfl, k, hbb⟩ := k
  rcases hi with rfl | hi
  · exact k.blk.lt
  · exact Own.lt2 k.own hi
def XHPost (w : World) (g : Nat) (S : Nat → Prop) (r : HS) (e : Ending) (w' : World) : Prop :=
  e = .returned (.tuple #[.bool r.whole, .int .i64 r.status]) ∧ ∃ S', XHR w' g S' r ∧ Moved S S' w w'
theorem xh_Line (g : Nat) (S : Nat → Prop) (h : HS) (s : ByteArray) (w : World) (k : XHR w g S h) (hi : HInv h) (hz : s.size ≤ 1000000) :
    Calls Tryz.prog 139 #[.pointer (some ⟨g, 0, none⟩), .string s] w (XHPost w g S (hLine h s.data.toList)) := by
  obtain ⟨v, bb, hS, kk, hbb⟩ := id k
  cases ho : h.on
  · rw [hLine_off h _ ho]
    have hb := kk.blk
    unfold xhCells at hb
    obtain ⟨⟨j0, j1, j2, j3, j4, j5, j6, j7, j8, j9, j10, j11, j12, j13, j14, j15⟩, i0, i1, i2, i3, i4, i5, i6, i7, i8, i9, i10, i11, i12, i13, i14, i15⟩ := Blk.c16 hb
    clear hb kk i0 i1 i2 i3 i4 i5 i6 i7 i8 i9 i10 i11 i12 i13 i14 i15 j0 j1 j2 j3 j4 j5 j6 j7 j8 j9 j10 j11 j14 j15 hbb
    rcases h.off_parts ho with hw | ⟨hw, hst⟩
    · rw [hw] at j12
      go_enter Tryz.func139, Tryz.ntmps139
      go_wp2
      go_quiet (fail)
      go_wp2
      go_ret2
      exact ⟨by rw [hw]; rfl, S, k.belowW (below_drewN' (Below.refl _ _) _), (Moved.refl _ _).drewN _⟩
    · rw [hw] at j12
      have hst2 : (h.status == 0) = false := by rw [Bool.eq_false_iff]; intro h0; rw [beq_iff_eq] at h0; exact hst h0
      go_enter Tryz.func139, Tryz.ntmps139
      go_wp2
      go_quiet (fail)
      go_wp2
      go_ret2
      exact ⟨by rw [hw]; rfl, S, k.belowW (below_drewN' (Below.refl _ _) _), (Moved.refl _ _).drewN _⟩
  · subst hS
    obtain rfl := hbb ho
    obtain ⟨h1, h2⟩ := h.on_parts ho
    have hC := xh_line g v h s w kk hi ho hz
    have hb := kk.blk
    unfold xhCells at hb
    obtain ⟨⟨j0, j1, j2, j3, j4, j5, j6, j7, j8, j9, j10, j11, j12, j13, j14, j15⟩, i0, i1, i2, i3, i4, i5, i6, i7, i8, i9, i10, i11, i12, i13, i14, i15⟩ := Blk.c16 hb
    rw [h1] at j12
    rw [h2] at j13
    clear hb kk i0 i1 i2 i3 i4 i5 i6 i7 i8 i9 i10 i11 i12 i13 i14 i15 j0 j1 j2 j3 j4 j5 j6 j7 j8 j9 j10 j11 j14 j15 k hbb h1 h2 hi ho
    generalize hLine h s.data.toList = r at hC
    go_enter Tryz.func139, Tryz.ntmps139
    go_wp2_with fail
    refine hC.mono ?_
    rintro e w1 ⟨rfl, v', b', q, hb'⟩
    clear hC j12 j13
    have f13 := q.k.blk.frozen 13
    have c12 := q.k.blk.cell 12
    have c13 := q.k.blk.cell 13
    have q2 := q.status r.status
    clear q
    go_wp2
    obtain ⟨V3, hV3, q5⟩ : ∃ V3, V3 = _ ∧ XW w (FS g v) V3 g v' _ b' := ⟨_, rfl, q2⟩
    rw [← hV3]
    clear hV3 q2 c12 c13 f13
    have d12 : V3.cell? ⟨g, 12, none⟩ = some (.bool r.whole) := q5.k.blk.cell 12
    have d13 : V3.cell? ⟨g, 13, none⟩ = some (.int .i64 r.status) := q5.k.blk.cell 13
    go_quiet (fail)
    go_wp2
    go_ret2
    have q6 := q5.drewN nq
    exact ⟨rfl, _, ⟨v', b', rfl, q6.k, hb'⟩, q6.m⟩
end Go.Proofs.YtlambdccmfnloaaGreatDoor
