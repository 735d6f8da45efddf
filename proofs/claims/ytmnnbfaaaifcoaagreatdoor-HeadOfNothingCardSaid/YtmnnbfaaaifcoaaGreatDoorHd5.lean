/- head: Line, behind the start. -/
import Derived.Test.YtmnnbfaaaifcoaaGreatDoorHd4
namespace Go.Proofs.YtmnnbfaaaifcoaaGreatDoor
open Go.RowKit
set_option maxRecDepth 100000
set_option maxHeartbeats 4000000

theorem HW.adds {w0 w w' : World} {S : Nat → Prop} {g pf : Nat} {v v' : Value} {h : HS} {l : List Fd} (q : HW w0 S w g pf v h) (hk : HK w' g pf v' { h with flds := l }) (hv : ∀ k, v'.ownBlock = some k → v.ownBlock = some k ∨ w.heap.size ≤ k) (hf : Fr (FS pf v) w w') : HW w0 S w' g pf v' { h with flds := l } := by
  refine ⟨hk, q.m.trans ⟨hf.mono fun i hi => .inl (.inr hi), fun i hi => ?_⟩⟩
  rcases hi with h1 | h1 | h1
  · exact .inl (.inl h1)
  · exact .inl (.inr (.inl h1))
  · rcases hv i h1 with h2 | h2
    · exact .inl (.inr (.inr h2))
    · exact .inr h2
theorem hd_Line_field (g pf : Nat) (v : Value) (h : HS) (s : ByteArray) (w : World) (k : HK w g pf v h) (hi : HInv h) (ho : h.on = true) (hs : 0 < s.size) (hg : h.begun = true) (hc : ¬ (256 < s.size ∨ 1024 < hB h s.data.toList)) (hm : ML w) (hh : Hi (hS g pf v)) :
    Calls Tryz.prog 15 #[.pointer (some ⟨g, 0, none⟩), .string s] w (HLPost w g (hS g pf v) (hLine h s.data.toList)) := by
  have hsn : s.data.toList ≠ [] := fun h0 => by have := len_data s; rw [h0] at this; simp at this; omega
  have hse : s.toList.isEmpty = false := by rw [ByteArray.toList_eq]; simpa using hsn
  obtain ⟨h1, h2⟩ := h.on_parts ho
  have hE := hLine_on h s.data.toList ho
  rw [if_neg (by rw [len_data]; exact hc)] at hE
  have HO := Lib.hid (hi.on h1 h2)
  clear ho
  obtain ⟨b, hbb⟩ : ∃ b, b = hB h s.data.toList := ⟨_, rfl⟩
  have hbe : b = h.bytes + min s.size 257 + 2 := by rw [hbb]; unfold hB; rw [len_data]
  rw [← hbb] at hE hc
  clear hbb
  have q := HW.refl k
  have hb := k.blk
  unfold hCells at hb
  obtain ⟨⟨j0, j1, j2, j3, j4, j5, j6, j7, j8, j9, j10, j11, j12, j13, j14, j15⟩, i0, i1, i2, i3, i4, i5, i6, i7, i8, i9, i10, i11, i12, i13, i14, i15⟩ := Blk.c16 hb
  have hbn := hi.bytes
  have hemp := hi.empty
  rw [h1] at j14
  rw [h2] at j15
  have H1 := Lib.hid h1
  have H2 := Lib.hid h2
  clear h1 h2
  rw [if_neg (by rw [hg]; decide), if_neg hsn] at hE
  have HE := Lib.hid hE
  rw [hg] at j7
  have hlen := hi.len
  clear hE hb k hi hsn j0 j1 j2 j3 j4 j5 j6 j10 j11 j12 j13 i0 i1 i2 i3 i4 i5 i6 i7 i10 i11 i12 i13
  have h256 : ¬ 256 < s.size := fun h0 => hc (.inl h0)
  have hb10 : ¬ 1024 < b := fun h0 => hc (.inr h0)
  have hmin : min (s.size : Int) 257 = s.size := by omega
  have hbe2 : b = h.bytes + (s.size + 2) := by omega
  clear hbe hc hg
  go_enter Tryz.func15, Tryz.ntmps15
  go_wp2_with fail
  have q' := q.bytes (n := (h.bytes : Int) + ((s.size : Int) + 2)) (m := b) (by omega)
  obtain ⟨V, hV, q9⟩ : ∃ V, V = _ ∧ HW w (hS g pf v) V g pf v _ := ⟨_, rfl, q'⟩
  have hmV : ML V := hm.fr q9.m.fr hh
  rw [← hV]
  clear hV q' q j7 j8 j9 j14 j15 i8 i9 i14 i15
  obtain ⟨r, hr⟩ : ∃ r, r = adL h.flds s.data.toList := ⟨_, rfl⟩
  have hC : Calls Tryz.prog 45 #[.pointer (some ⟨g, 0, none⟩), .string s] V (AddsPost V g pf v { h with bytes := b } r) := by
    rw [hr]; exact hd_adds g pf v { h with bytes := b } s V q9.k hlen hmV
  rw [← hr] at HE
  clear hr
  refine hC.mono ?_
  rintro e w2 ⟨rfl, v', hk2, hv2, hf2⟩
  have q3 := q9.adds hk2 hv2 hf2
  have f15 := hk2.blk.frozen 15
  have d14 := hk2.blk.cell 14
  have d15 := hk2.blk.cell 15
  have q4 := q3.status r.1
  clear hC hk2 hv2 hf2 q3
  go_wp2
  obtain ⟨V3, hV3, q5⟩ : ∃ V3, V3 = _ ∧ HW w (hS g pf v) V3 g pf v' _ := ⟨_, rfl, q4⟩
  rw [← hV3]
  clear hV3 q4 d14 d15 f15
  obtain ⟨c14, c15⟩ := q5.ends (b := false) (n := r.1) H1.out rfl
  go_quiet (fail)
  go_wp2
  go_ret2
  exact hlp (q5.drewN _) (by rw [HE.out]) H1.out.symm rfl
theorem HW.how {w0 w : World} {S : Nat → Prop} {g pf : Nat} {v : Value} {h : HS} (q : HW w0 S w g pf v h) (y : How) : HW w0 S ((((w.setCell ⟨g, 10, none⟩ (.int .i64 y.kind)).setCell ⟨g, 11, none⟩ (.int .i64 y.len)).setCell ⟨g, 12, none⟩ (.bool y.close)).setCell ⟨g, 13, none⟩ (.bool y.expect)) g pf v { h with how := y } := by
  have h1 : HW w0 S (w.setCell ⟨g, 10, none⟩ (.int .i64 y.kind)) g pf v { h with how := ⟨y.kind, h.how.len, h.how.close, h.how.expect⟩ } := q.set_ 10 _ (by simp [hCells]) rfl
  have h2 : HW w0 S _ g pf v { h with how := ⟨y.kind, y.len, h.how.close, h.how.expect⟩ } := h1.set_ 11 (.int .i64 y.len) (by simp [hCells]) rfl
  have h3 : HW w0 S _ g pf v { h with how := ⟨y.kind, y.len, y.close, h.how.expect⟩ } := h2.set_ 12 (.bool y.close) (by simp [hCells]) rfl
  exact h3.set_ 13 (.bool y.expect) (by simp [hCells]) rfl
abbrev S60 (g pf : Nat) (n : Int) (w : World) : Prop := w.cell? ⟨g, 6, none⟩ = some (.int .i64 n) ∧ w.cell? ⟨g, 0, none⟩ = some (.pointer (some ⟨pf, 0, none⟩))
theorem S60.set_ {g pf : Nat} {n : Int} {w : World} (h : S60 g pf n w) {j : Nat} {u : Value} (h6 : j ≠ 6) (h0 : j ≠ 0) : S60 g pf n (w.setCell ⟨g, j, none⟩ u) := by
  unfold S60 at *
  rw [World.cell?_setCell_other _ (⟨g, j, none⟩ : Addr) (⟨g, 6, none⟩ : Addr) _ (fun e => h6 (by injection e)), World.cell?_setCell_other _ (⟨g, j, none⟩ : Addr) (⟨g, 0, none⟩ : Addr) _ (fun e => h0 (by injection e))]
  exact h
theorem hd_Line_end (g pf : Nat) (v : Value) (h : HS) (s : ByteArray) (w : World) (k : HK w g pf v h) (hi : HInv h) (ho : h.on = true) (hs : s.size = 0) (hg : h.begun = true) (hc : ¬ (256 < s.size ∨ 1024 < hB h s.data.toList)) (hm : ML w) (hh : Hi (hS g pf v)) :
    Calls Tryz.prog 15 #[.pointer (some ⟨g, 0, none⟩), .string s] w (HLPost w g (hS g pf v) (hLine h s.data.toList)) := by
  obtain rfl : s = ⟨#[]⟩ := str_ext (List.eq_nil_of_length_eq_zero (by rw [len_data]; exact hs))
  obtain ⟨h1, h2⟩ := h.on_parts ho
  have hE := hLine_on h [] ho
  rw [if_neg (by exact hc)] at hE
  have HO := Lib.hid (hi.on h1 h2)
  clear ho
  obtain ⟨b, hbb⟩ : ∃ b, b = hB h [] := ⟨_, rfl⟩
  have hbe : b = h.bytes + min 0 257 + 2 := by rw [hbb]; unfold hB; rfl
  rw [← hbb] at hE hc
  clear hbb
  have q := HW.refl k
  have hb := k.blk
  unfold hCells at hb
  obtain ⟨⟨j0, j1, j2, j3, j4, j5, j6, j7, j8, j9, j10, j11, j12, j13, j14, j15⟩, i0, i1, i2, i3, i4, i5, i6, i7, i8, i9, i10, i11, i12, i13, i14, i15⟩ := Blk.c16 hb
  have hbn := hi.bytes
  have hemp := hi.empty
  rw [h1] at j14
  rw [h2] at j15
  have H1 := Lib.hid h1
  have H2 := Lib.hid h2
  clear h1 h2
  rw [if_neg (by rw [hg]; decide), if_pos rfl] at hE
  have HE := Lib.hid hE
  rw [hg] at j7
  have hlen := hi.len
  have hsz := hi.sz
  have hp : FP w (some ⟨pf, 0, none⟩) h.flds := .inr ⟨pf, rfl, k.fa.rd⟩
  clear hE hb hi hg j1 j2 j3 j4 j5 j8 i0 i1 i2 i3 i4 i5 i6 i7 i8
  have hbe2 : b = h.bytes + 2 := by rw [hbe]; rfl
  have hmin0 : min (0 : Int) 257 = 0 := rfl
  have hb10 : ¬ 1024 < b := fun h0 => hc (.inr h0)
  clear hbe hc
  obtain ⟨r, hr⟩ : ∃ r, r = frmL (decide (1 ≤ h.minor)) h.flds := ⟨_, rfl⟩
  have q9 := q.bytes (n := (h.bytes : Int) + 2) (m := b) (by omega)
  obtain ⟨V, hV⟩ : ∃ V, V = w.setCell ⟨g, 9, none⟩ (.int .i64 ((h.bytes : Int) + 2)) := ⟨_, rfl⟩
  rw [← hV] at q9
  have hmV : ML V := hm.fr q9.m.fr hh
  have hpV : FP V (some ⟨pf, 0, none⟩) h.flds := .inr ⟨pf, rfl, q9.k.fa.rd⟩
  have hC : ∀ n, Calls Tryz.prog 44 #[.int .i64 h.minor, .pointer (some ⟨pf, 0, none⟩)] (V.drewN n) fun e w' => e = .returned (howR r) ∧ Below V.heap.size V w' := fun n => by
    rw [hr]; exact (frm_Of h.minor (some ⟨pf, 0, none⟩) h.flds (V.drewN n) (hpV.belowW (below_drewN' (Below.refl _ _) n)) hlen hsz (hmV.drewN n)).mono fun e w' ⟨h1, h2⟩ => ⟨h1, stepW (below_drewN' (Below.refl _ _) n) h2⟩
  rw [← hr] at HE
  clear hr
  obtain ⟨y, st⟩ := r
  have hbV := q9.k.blk
  unfold hCells at hbV
  obtain ⟨⟨d0, d1, d2, d3, d4, d5, d6, d7, d8, d9, d10, d11, d12, d13, d14, d15⟩, f0, f1, f2, f3, f4, f5, f6, f7, f8, f9, f10, f11, f12, f13, f14, f15⟩ := Blk.c16 hbV
  clear hp hpV k hbV d1 d2 d3 d4 d5 d7 d8 d9 f0 f1 f2 f3 f4 f5 f6 f7 f8 f9
  go_enter Tryz.func15, Tryz.ntmps15
  go_wp2_with fail
  rw [← hV]
  clear hV j0 j6 j7 j9 j10 j11 j12 j13 j14 j15 i9 i10 i11 i12 i13 i14 i15 q
  have hgV := q9.k.blk.lt
  rw [show howR (y, st) = .tuple #[howV y, .int .i64 st] from rfl] at hC
  unfold howV at hC
  have hS0 : S60 g pf h.minor V := ⟨d6, d0⟩
  go_region_held3 (fun w' => w'.cell? ⟨g, 6, none⟩ = some (.int .i64 h.minor) ∧ w'.cell? ⟨g, 0, none⟩ = some (.pointer (some ⟨pf, 0, none⟩)))
    (first | with_reducible exact hS0 | with_reducible exact S4 | ((repeat (with_reducible refine S60.set_ ?_ (by decide) (by decide))); with_reducible exact S4) | go_keep)
    (first
      | (go_at_call 44
         refine (hC 0).mono ?_
         rintro e w4 ⟨rfl, L4⟩
         have q4 := q9.belowW L4
         have S4 : S60 g pf h.minor w4 := ⟨(L4.cell (p := ⟨g, 6, none⟩) hgV).trans d6, (L4.cell (p := ⟨g, 0, none⟩) hgV).trans d0⟩
         have hu := q4.k.blk
         unfold hCells at hu
         obtain ⟨⟨g0, g1, g2, g3, g4, g5, g6, g7, g8, g9, g10, g11, g12, g13, g14, g15⟩, e0, e1, e2, e3, e4, e5, e6, e7, e8, e9, e10, e11, e12, e13, e14, e15⟩ := Blk.c16 hu
         clear hu g0 g1 g2 g3 g4 g5 g6 g7 g8 g9 e0 e1 e2 e3 e4 e5 e6 e7 e8 e9)
      | (go_at_call 44
         refine (hC 1).mono ?_
         rintro e w4 ⟨rfl, L4⟩
         have q4 := q9.belowW L4
         have S4 : S60 g pf h.minor w4 := ⟨(L4.cell (p := ⟨g, 6, none⟩) hgV).trans d6, (L4.cell (p := ⟨g, 0, none⟩) hgV).trans d0⟩
         have hu := q4.k.blk
         unfold hCells at hu
         obtain ⟨⟨g0, g1, g2, g3, g4, g5, g6, g7, g8, g9, g10, g11, g12, g13, g14, g15⟩, e0, e1, e2, e3, e4, e5, e6, e7, e8, e9, e10, e11, e12, e13, e14, e15⟩ := Blk.c16 hu
         clear hu g0 g1 g2 g3 g4 g5 g6 g7 g8 g9 e0 e1 e2 e3 e4 e5 e6 e7 e8 e9))
  go_wp2_with fail
  have q5 := (((q4.how y).status st)).whole (st == 0)
  obtain ⟨V3, hV3, q6⟩ : ∃ V3, V3 = _ ∧ HW w (hS g pf v) V3 g pf v _ := ⟨_, rfl, q5⟩
  rw [← hV3]
  clear hV3 q4 q5 q9
  obtain ⟨c14, c15⟩ := q6.ends (b := st == 0) (n := st) rfl rfl
  go_quiet (fail)
  go_wp2
  go_ret2
  exact hlp (q6.drewN _) (by rw [HE.out]; congr 1) rfl rfl
end Go.Proofs.YtmnnbfaaaifcoaaGreatDoor
