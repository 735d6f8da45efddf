/- client.Build. usherref26.Build. The law ClientBuilds. -/
import Derived.Test.YtlambdccmfnloaaGreatDoorCb1
import Derived.Test.YtlambdccmfnloaaGreatDoorSp1
import Derived.Test.YtlambdccmfnloaaGreatDoorPrint
import Derived.Deep.RegionHeld3
import Derived.Test.YtlambdccmfnloaaGreatDoorEncR
namespace Go.Proofs.YtlambdccmfnloaaGreatDoor
open Go.RowKit
set_option maxRecDepth 100000
set_option maxHeartbeats 4000000

def cbFirst (r : RQ) (s : Bs) : Bs := r.m ++ [32] ++ s ++ [32, 72, 84, 84, 80, 47, 49, 46] ++ digs 10 r.v.toNat
def cbBytes (r : RQ) (zs : List Int) (s : Bs) : Bs := cheadL (cbFirst r s) r.f ++ (if zs = [] then r.b else encL (partsL zs r.b))
def cbOk (r : RQ) (B : Bs) : Bool := decide ((pFeed p0 B).1 = B.length ∧ (pFeed p0 B).2.phase = 3 ∧ rqOf (pFeed p0 B).2 = r)
/-- A request as bytes, or none. -/
def buildL (r : RQ) (zs : List Int) : Option Bs :=
  if (printL r.t).2 = 0 then (if cbOk r (cbBytes r zs (printL r.t).1) then some (cbBytes r zs (printL r.t).1) else none) else none
theorem printL_cases (t : Tgt) : (∃ s, printL t = (s, 0) ∧ s.length ≤ 200) ∨ printL t = ([], 1) := by
  unfold printL
  split
  · rename_i h
    refine .inl ⟨_, rfl, ?_⟩
    rcases Nat.lt_or_ge 200 (prS t).2.length with h1 | h1
    · exfalso
      rw [parseL, if_pos h1] at h
      have := congrArg Prod.snd h
      simp at this
    · exact h1
  · exact .inr rfl
theorem cbFirst_len (r : RQ) (s : Bs) (hm : r.m.length ≤ 4000) (hs : s.length ≤ 200) (hv : r.v ≤ 9223372036854775807) : (cbFirst r s).length ≤ 4300 := by
  have := digs10_len r.v.toNat (by omega)
  simp only [cbFirst, List.length_append, List.length_cons, List.length_nil]
  omega
theorem cb_enc (zs : List Int) (b : Bs) (hb : b.length ≤ 4000) (hz : zs.length ≤ 100) : ((partsL zs b).flatMap encP).length ≤ 5100 := by
  have h1 := flat_len (partsL zs b) (fun p hp => by
    have h2 : p.length ≤ (partsL zs b).flatten.length := (List.sublist_flatten_of_mem hp).length_le
    rw [partsL_flat] at h2
    omega)
  rw [partsL_flat, partsL_len] at h1
  omega
theorem cbBytes_len (r : RQ) (zs : List Int) (s : Bs) (hm : r.m.length ≤ 4000) (hs : s.length ≤ 200) (hv : r.v ≤ 9223372036854775807) (hf : fsz r.f ≤ 4000) (hb : r.b.length ≤ 4000) (hz : zs.length ≤ 100) : (cbBytes r zs s).length ≤ 20000 := by
  have h1 := cbFirst_len r s hm hs hv
  have h2 := hdrsL_len r.f
  have h3 := cb_enc zs r.b hb hz
  have h4 := encL_len (partsL zs r.b)
  unfold cbBytes cheadL
  split <;> simp only [List.length_append, List.length_cons, List.length_nil] <;> omega
/-- What a builder made. -/
def BuildPost (w : World) (o : Option Bs) (e : Ending) (w' : World) : Prop :=
  ∃ A c, e = .returned (.tuple #[.slice A (o.getD []).length c, .int .i64 (if o.isSome then 0 else 1)]) ∧ Rd w' w'.heap.size 1 A (o.getD []).length ((o.getD []).map bv) ∧ (o.getD []).length ≤ c ∧ Below w.heap.size w w'
/-- One whole row is fed to a new parser. -/
theorem feed_row {g : Nat} {S : Nat → Prop} {wr : World} {b : Bs} {A : Option Addr} {n d : Nat} (k : PR wr g S p0) (hA : RdO wr S A n (b.map bv)) (hn : n ≤ 100000) (hd : n ≤ d) (hm : ML wr) (hh : Hi S) :
    Calls Tryz.prog 18 #[.pointer (some ⟨g, 0, none⟩), .slice (some ⟨wr.heap.size, 0, none⟩) 1 1] (wr.alloc (.cells #[.slice A n d] 25)) (FeedP (wr.alloc (.cells #[.slice A n d] 25)) g S (pFeed p0 b)) := by
  have hbl : b.length = n := by simpa using hA.1.1
  have hlt : ∀ k, S k → k < wr.heap.size := fun _ hk => k.lt hk
  have La := allocW (Below.refl wr.heap.size wr) (.cells #[.slice A n d] 25)
  have rp := RdP.one hlt wr.heap.size rfl 25 b hbl hA hd
  have h9 := prs_FeedP g S p0 _ 1 1 _ _ (k.belowW La) p0_inv rp (by simp only [List.flatten_cons, List.flatten_nil, List.append_nil]; omega) (by decide) (hm.below La (Nat.le_refl _)) hh (by decide)
  rw [List.flatten_cons, List.flatten_nil, List.append_nil] at h9
  exact h9
theorem cli_Build (x : RP) (A2 : Option Addr) (n2 c2 : Nat) (zs : List Int) (w : World) (h1 : RQR w x.r x.af x.ab) (hA2 : Rd w w.heap.size 1 A2 n2 (zs.map (Value.int .i64))) (hxb : x.r.b.length ≤ x.cb)
    (hz1 : x.r.m.length ≤ 4000) (hz2 : x.r.t.host.length ≤ 4000) (hz3 : x.r.t.path.length ≤ 4000) (hz4 : x.r.t.query.length ≤ 4000) (hz5 : fsz x.r.f ≤ 4000) (hz6 : x.r.b.length ≤ 4000) (hz7 : n2 ≤ 100) (hv0 : -9223372036854775808 ≤ x.r.v) (hv1 : x.r.v ≤ 9223372036854775807) (hm : ML w) (ht : Tab10 w) (htz : TZ w) :
    Calls Tryz.prog 11 #[rqV x.r x.af x.cf x.ab x.cb, .slice A2 n2 c2] w (BuildPost w (buildL x.r zs)) := by
  rw [rqv_cells]
  have hzl : zs.length = n2 := by simpa using hA2.1
  have LW := allocW (Below.refl w.heap.size w) (.cells #[sv x.r.m, .int .i64 x.r.t.form, sv x.r.t.host, sv x.r.t.path, sv x.r.t.query, .int .i64 x.r.v, .slice x.af x.r.f.length x.cf, .slice x.ab x.r.b.length x.cb, .bool x.r.c, .bool x.r.e] 27)
  have K1 := Blk.new w 27 #[sv x.r.m, .int .i64 x.r.t.form, sv x.r.t.host, sv x.r.t.path, sv x.r.t.query, .int .i64 x.r.v, .slice x.af x.r.f.length x.cf, .slice x.ab x.r.b.length x.cb, .bool x.r.c, .bool x.r.e]
  go_enter Tryz.func11, Tryz.ntmps11
  go_upto_region 1 with (fail)
  generalize w.alloc (.cells #[sv x.r.m, .int .i64 x.r.t.form, sv x.r.t.host, sv x.r.t.path, sv x.r.t.query, .int .i64 x.r.v, .slice x.af x.r.f.length x.cf, .slice x.ab x.r.b.length x.cb, .bool x.r.c, .bool x.r.e] 27) = W at LW K1 ⊢
  have hmW := hm.below LW (Nat.le_refl _)
  have htW := tab_below ht LW (Nat.le_refl _)
  obtain ⟨⟨a0, a1, a2, a3, a4, a5, a6, a7, a8, a9⟩, -⟩ := K1.c10
  have hPr : Calls Tryz.prog 34 #[.agg #[.int .i64 x.r.t.form, sv x.r.t.host, sv x.r.t.path, sv x.r.t.query]] W fun e w' => e = .returned (printV (printL x.r.t)) ∧ Below W.heap.size W w' := tgt_Print x.r.t.form ⟨x.r.t.host.toArray⟩ ⟨x.r.t.path.toArray⟩ ⟨x.r.t.query.toArray⟩ W hmW (by rw [size_mkC]; omega) (by rw [size_mkC]; omega) (by rw [size_mkC]; omega)
  by_cases hbad : printL x.r.t = ([], 1)
  · have hbl : buildL x.r zs = none := by unfold buildL; rw [hbad]; rfl
    rw [hbad] at hPr
    unfold printV at hPr
    go_wp2_with fail
    refine hPr.mono ?_
    rintro e w1 ⟨rfl, L1⟩
    go_wp2
    rw [hbl]
    apply bodyPost_ret (v := .tuple #[.slice none 0 0, .int .i64 1])
    · simp [results, Tryz.results11, go_sem]
    · rfl
    · exact ⟨none, 0, rfl, Rd.nil _ _ _ _, Nat.le_refl _, stepW LW L1⟩
  obtain ⟨s, hs, hsl⟩ := (printL_cases x.r.t).resolve_right hbad
  rw [hs] at hPr
  unfold printV at hPr
  have HBL : Hid (buildL x.r zs = if cbOk x.r (cbBytes x.r zs s) then some (cbBytes x.r zs s) else none) := Lib.hid (by unfold buildL; rw [hs]; rfl)
  have hBlen := cbBytes_len x.r zs s hz1 hsl hv1 hz5 hz6 (by omega)
  have hFl := cbFirst_len x.r s hz1 hsl hv1
  go_wp2_with fail
  refine hPr.mono ?_
  rintro e w1 ⟨rfl, L1⟩
  have L1w := stepW LW L1
  have K2 := K1.belowW L1
  have R1 := h1.belowW L1w
  have hm1 := hmW.below L1 (Nat.le_refl _)
  have ht1 := tab_below htW L1 (Nat.le_refl _)
  clear hPr a0 a1 a2 a3 a4 a5 a6 a7 a8 a9 hs
  go_upto_region 4 with (fail)
  have hZ : ∀ w', Below w1.heap.size w1 w' → RH0 w.heap.size x w' := fun w' hb => ((K2.belowW hb).c10).1
  have Ld := (Below.refl w1.heap.size w1).drew
  have S0 := hZ w1 (Below.refl _ _)
  have Sd := hZ w1.drew Ld
  have hA1 := asc_Dec x.r.v w1.drew hv0 hv1 (tab_below ht1 Ld (Nat.le_refl _))
  have hA2' := fun (w' : World) => asc_Join (some ⟨w'.heap.size, 0, none⟩) 5 5 (w'.heap.size + 1) [⟨x.r.m.toArray⟩, ⟨#[32]⟩, ⟨s.toArray⟩, ⟨#[32, 72, 84, 84, 80, 47, 49, 46]⟩, ⟨(digs 10 x.r.v.toNat).toArray⟩] (w'.alloc (.cells #[sv x.r.m, .string ⟨#[32]⟩, sv s, .string ⟨#[32, 72, 84, 84, 80, 47, 49, 46]⟩, sv (digs 10 x.r.v.toNat)] 9)) (by simp) (Rd.new w' _ rfl [sv x.r.m, .string ⟨#[32]⟩, sv s, .string ⟨#[32, 72, 84, 84, 80, 47, 49, 46]⟩, sv (digs 10 x.r.v.toNat)] 9 5 1 rfl) (by decide) (by unfold cbFirst at hFl; simp only [List.length_append, List.length_cons, List.length_nil] at hFl; simp; omega) (by decide)
  have eF : (List.map (fun x : ByteArray => x.data.toList) [⟨x.r.m.toArray⟩, ⟨#[32]⟩, ⟨s.toArray⟩, ⟨#[32, 72, 84, 84, 80, 47, 49, 46]⟩, ⟨(digs 10 x.r.v.toNat).toArray⟩]).flatten = cbFirst x.r s := by simp [cbFirst]
  simp only [eF] at hA2'
  have hA3 := fun (w' : World) (L : Below w1.heap.size w1 w') => cli_head ⟨(cbFirst x.r s).toArray⟩ x.af x.r.f.length x.cf x.r.f w' ((R1.belowW L).f) (by rw [size_mkC]; omega) (by omega)
  unfold CBytesPost at hA3
  obtain ⟨F, hF⟩ : ∃ F, F = cbFirst x.r s := ⟨_, rfl⟩
  simp only [← hF] at hA2' hA3
  have HF := Lib.hid hF
  clear hF eF
  go_region_held3 (fun w' => RH0 w.heap.size x w') (first | with_reducible exact S0 | with_reducible exact Sd | with_reducible exact S5 | with_reducible exact S5a | with_reducible exact S6 | with_reducible exact S7)
    (first
      | (go_at_call 37; refine hA1.mono ?_; rintro e w5 ⟨rfl, L5⟩; have N5 := stepW Ld L5; have S5 := hZ w5 N5; have S5a := hZ _ (allocW N5 (.cells #[sv x.r.m, .string ⟨#[32]⟩, sv s, .string ⟨#[32, 72, 84, 84, 80, 47, 49, 46]⟩, sv (digs 10 x.r.v.toNat)] 9)))
      | (go_at_call 36; refine (hA2' _).mono ?_; rintro e w6 ⟨rfl, L6⟩; have N6 := stepW (allocW N5 _) L6; have S6 := hZ w6 N6)
      | (go_at_call 35; refine (hA3 _ N6).mono ?_; rintro e w7 ⟨A4, n4, c4, rfl, ho7, L7⟩; have N7 := stepW N6 L7; have S7 := hZ w7 N7))
  clear hA1 hA2' hA3 S0 Sd S5 S5a S6 hZ
  obtain ⟨B, hB⟩ : ∃ B, B = cbBytes x.r zs s := ⟨_, rfl⟩
  rw [← hB] at hBlen
  have ho8 : Own w7 w1.heap.size 5 1 (.slice A4 n4 c4) n4 ((cheadL F x.r.f).map bv) := ho7.base_le N6.size
  have hn4 : (cheadL F x.r.f).length = n4 := by simpa using ho8.1
  have hBe : B = cheadL F x.r.f ++ (if zs = [] then x.r.b else encL (partsL zs x.r.b)) := by rw [hB, cbBytes, HF.out]
  have R7 := R1.belowW N7
  have K7 := K2.belowW N7
  obtain ⟨⟨a0, a1, a2, a3, a4, a5, a6, a7, a8, a9⟩, -⟩ := K7.c10
  have hA7 := (hA2.below (stepW L1w N7)).more (stepW L1w N7).size
  have hm7 := hm1.below N7 (Nat.le_refl _)
  have htz7 := htz.below (stepW L1w N7) (Nat.le_refl _)
  obtain ⟨H, hH⟩ : ∃ H, H = cheadL F x.r.f := ⟨_, rfl⟩
  rw [← hH] at ho8 hn4 hBe
  have HB := Lib.hid hB
  have HBE := Lib.hid hBe
  have HN4 := Lib.hid hn4
  clear hB hH hBe hn4 ho7 S7
  obtain ⟨i8, hi8, hy0, hy1, hy2⟩ := info_parts info_u8
  go_upto_if 34 with (fail)
  go_cut [8] (fun v8 wx => ∃ (A9 : Option Addr) (c9 : Nat), v8 = .slice A9 B.length c9 ∧ Own wx w1.heap.size 5 1 (.slice A9 B.length c9) B.length (B.map bv) ∧ Below w1.heap.size w1 wx)
  case first =>
    by_cases hz : n2 = 0
    · have hzs : zs = [] := List.eq_nil_of_length_eq_zero (by omega)
      have hBe2 : B = H ++ x.r.b := by rw [HBE.out, if_pos hzs]
      have hlen : B.length = n4 + x.r.b.length := by rw [hBe2, List.length_append, HN4.out]
      have hmap : B.map bv = H.map bv ++ x.r.b.map bv := by rw [hBe2, List.map_append]
      have HLEN := Lib.hid hlen
      have HMAP := Lib.hid hmap
      have hz' : ((n2 : Int) == 0) = true := by simp; omega
      clear hBe2 hlen hmap hzs hz
      go_wp2_with (at_builtin
                   refine wpList_append_Own _ rfl (.tmp 35) (.tmp 37) 25 25 rfl w1.heap.size 5 i8 _ 1 1 Tryz.underlying25 (.inl Tryz.underlying25) hi8 hy0 hy1 hy2 rfl (by decide) (.slice A4 n4 c4) n4 _ rfl ho8 _ x.r.b.length (x.r.b.map bv) rfl (Src.of_rd R7.b (by intro u hu; obtain ⟨y, -, rfl⟩ := List.mem_map.1 hu; rfl)) (by have := HLEN.out; unfold maxLen; omega) (by have := HLEN.out; omega) N7.size ?_
                   intro v9 w9 ho9 hg9 hat9
                   obtain ⟨A9, c9, hv9, n9, m9, r9, q9⟩ := ho9.rd
                   subst hv9)
      go_meet
      case rel => exact ⟨A9, c9, by rw [HLEN.out], by rw [HLEN.out, HMAP.out]; exact ho9, growW N7 hg9 (fun j hj => (ho8.lt j hj).1)⟩
    · have hzs : zs ≠ [] := fun h => by rw [h] at hzl; simp at hzl; omega
      have hBe2 : B = H ++ encL (partsL zs x.r.b) := by rw [HBE.out, if_neg hzs]
      obtain ⟨E, hE⟩ : ∃ E, E = encL (partsL zs x.r.b) := ⟨_, rfl⟩
      rw [← hE] at hBe2
      have hlen : B.length = n4 + E.length := by rw [hBe2, List.length_append, HN4.out]
      have hmap : B.map bv = H.map bv ++ E.map bv := by rw [hBe2, List.map_append]
      have HLEN := Lib.hid hlen
      have HMAP := Lib.hid hmap
      have HE := Lib.hid hE
      have hpc := cb_enc zs x.r.b hz6 (by omega)
      have hpl := partsL_len zs x.r.b
      have hP := cli_parts x.ab x.r.b.length x.cb x.r.b A2 n2 c2 zs w7 R7.b hA7 hxb (by omega) (by omega)
      unfold PartsPost at hP
      generalize partsL zs x.r.b = PS at hP hpc hpl HE
      have HPL := Lib.hid hpl
      have hz' : ((n2 : Int) == 0) = false := by simp; omega
      clear hBe2 hlen hmap hzs hE hpl
      go_wp2_with fail
      refine hP.mono ?_
      rintro e w8 ⟨AP, cP, rfl, hS, L8⟩
      have N8 := stepW N7 L8
      go_wp2_with fail
      refine (chk_Encode AP PS.length cP w8.heap.size PS w8 hS (Nat.le_refl _) (by omega) (by have := HPL.out; omega) (htz7.below L8 (Nat.le_refl _))).mono ?_
      rintro e w9 ⟨vE, rfl, hoE, L9⟩
      have N9 := stepW N8 L9
      rw [← HE.out] at hoE
      obtain ⟨AE, cE, rfl, -, -, hrE⟩ := hoE.form
      have ho9 := (ho8.belowW L8).belowW L9
      go_wp2_with (at_builtin
                   refine wpList_append_Own _ rfl (.tmp 39) (.tmp 44) 25 25 rfl w1.heap.size 5 i8 _ 1 1 Tryz.underlying25 (.inl Tryz.underlying25) hi8 hy0 hy1 hy2 rfl (by decide) (.slice A4 n4 c4) n4 _ rfl ho9 _ E.length (E.map bv) rfl (Src.of_rd hrE (by intro u hu; obtain ⟨y, -, rfl⟩ := List.mem_map.1 hu; rfl)) (by have := HLEN.out; unfold maxLen; omega) (by have := HLEN.out; omega) N9.size ?_
                   intro v10 w10 ho10 hg10 hat10
                   obtain ⟨A10, c10, hv10, n10, m10, r10, q10⟩ := ho10.rd
                   subst hv10)
      go_meet
      case rel => exact ⟨A10, c10, by rw [HLEN.out], by rw [HLEN.out, HMAP.out]; exact ho10, growW N9 hg10 (fun j hj => (ho9.lt j hj).1)⟩
  case rest =>
    obtain ⟨A9, c9, rfl, ho9, N9⟩ := hcut
    obtain ⟨wx, rfl⟩ : ∃ wx, wx = wc := ⟨_, rfl⟩
    have N9w := stepW L1w N9
    have hm9 := hm1.below N9 (Nat.le_refl _)
    have K9 := K2.belowW N9
    have R9 := R1.belowW N9
    obtain ⟨hc9, -, hr9⟩ := ho9.rdS
    clear K7 R7 a0 a1 a2 a3 a4 a5 a6 a7 a8 a9 hm7 htz7 hA7 ho8 N7
    go_wp2_with fail
    refine (prs_New wx).mono ?_
    rintro e w10 ⟨⟨g, S0, rfl, hk, hS0⟩, L10⟩
    have hr10 := (hr9.belowW (Nat.le_refl _) L10).more L10.size
    have hm10 := hm9.below L10 (Nat.le_refl _)
    have hF := feed_row hk ⟨hr10, hr9.off hS0⟩ (by omega) hc9 hm10 (hi_of hm9 hS0)
    obtain ⟨q, hq⟩ : ∃ q, q = pFeed p0 B := ⟨_, rfl⟩
    rw [← hq] at hF
    have HQ := Lib.hid hq
    clear hq
    go_wp2_with fail
    refine hF.mono ?_
    rintro e w11 ⟨rfl, hi11, S11, k11, m11⟩
    have L11 := moved_below m11 (stepW L10 (allocW (Below.refl w10.heap.size w10) _)) hS0
    have hS11 := moved_hs m11 (Nat.le_trans L10.size (allocW (Below.refl w10.heap.size w10) _).size) hS0
    have hT := prs_TakeA g S11 q.2 w11 k11 hi11
    unfold TakeA at hT
    have hRs := rT_len q.2 hi11
    obtain ⟨R, hR⟩ : ∃ R, R = rT q.2 := ⟨_, rfl⟩
    obtain ⟨ER, hER⟩ : ∃ ER, ER = eT q.2 := ⟨_, rfl⟩
    rw [← hR, ← hER] at hT
    rw [← hR] at hRs
    simp only [rqv_cells] at hT
    have HR := Lib.hid hR
    have HER := Lib.hid hER
    clear hR hER hF
    go_wp2_with fail
    refine hT.mono ?_
    rintro e w12 ⟨AF, cF, AB, cB, rfl, hr12, -, S12, k12, m12⟩
    have L12 := moved_below m12 L11 hS11
    have Ba := Blk.new w12 27 #[sv R.m, .int .i64 R.t.form, sv R.t.host, sv R.t.path, sv R.t.query, .int .i64 R.v, .slice AF R.f.length cF, .slice AB R.b.length cB, .bool R.c, .bool R.e]
    have La := allocW (Below.refl w12.heap.size w12) (.cells #[sv R.m, .int .i64 R.t.form, sv R.t.host, sv R.t.path, sv R.t.query, .int .i64 R.v, .slice AF R.f.length cF, .slice AB R.b.length cB, .bool R.c, .bool R.e] 27)
    have L13 := stepW L12 La
    have R13 := R9.belowW L13
    have K13 := K9.belowW L13
    have hr13 := hr12.belowW La
    have hrB := (hr9.belowW (Nat.le_refl _) L13).more L13.size
    go_upto_region 11 with (fail)
    generalize w12.alloc (.cells #[sv R.m, .int .i64 R.t.form, sv R.t.host, sv R.t.path, sv R.t.query, .int .i64 R.v, .slice AF R.f.length cF, .slice AB R.b.length cB, .bool R.c, .bool R.e] 27) = w13 at Ba La L13 R13 K13 hr13 hrB ⊢
    have N13 := stepW N9w L13
    have hSm := spc_Same ⟨R, AF, cF, AB, cB⟩ x w13 hr13 R13 hRs.1 hRs.2
    simp only [rqv_cells] at hSm
    obtain ⟨⟨b0, b1, b2, b3, b4, b5, b6, b7, b8, b9⟩, -⟩ := Ba.c10
    obtain ⟨⟨a0, a1, a2, a3, a4, a5, a6, a7, a8, a9⟩, -⟩ := K13.c10
    have hno : ¬ ((pFeed p0 B).1 = B.length ∧ (pFeed p0 B).2.phase = 3 ∧ rqOf (pFeed p0 B).2 = x.r) → buildL x.r zs = none := fun h => by rw [HBL.out, ← HB.out, if_neg (by unfold cbOk; rw [decide_eq_true_eq]; exact h)]
    rw [← HQ.out] at hno
    have HNO := Lib.hid hno
    clear hno
    by_cases h1 : q.1 = B.length
    case neg =>
      have h1' : ((q.1 : Int) != (B.length : Int)) = true := by simp; omega
      go_wp2
      apply bodyPost_ret (v := .tuple #[.slice none 0 0, .int .i64 1])
      · simp [results, Tryz.results11, go_sem]
      · rfl
      · rw [HNO.out (fun h => h1 h.1)]; exact ⟨none, 0, rfl, Rd.nil _ _ _ _, Nat.le_refl _, N13⟩
    have h1' : ((q.1 : Int) != (B.length : Int)) = false := by simp; omega
    have H1 := Lib.hid h1
    clear h1
    by_cases h2 : q.2.phase = 3
    case neg =>
      have h2' : (ER != 0) = true := by rw [HER.out, eT, if_neg h2]; rfl
      go_wp2
      apply bodyPost_ret (v := .tuple #[.slice none 0 0, .int .i64 1])
      · simp [results, Tryz.results11, go_sem]
      · rfl
      · rw [HNO.out (fun h => h2 h.2.1)]; exact ⟨none, 0, rfl, Rd.nil _ _ _ _, Nat.le_refl _, N13⟩
    have h2' : (ER != 0) = false := by rw [HER.out, eT, if_pos h2]; rfl
    have hRq : R = rqOf q.2 := by rw [HR.out, rT, if_pos h2]
    have HRQ := Lib.hid hRq
    clear hRq
    by_cases h3 : R = x.r
    case neg =>
      rw [decide_eq_false h3] at hSm
      go_wp2_with fail
      refine hSm.mono ?_
      rintro e w14 ⟨rfl, L14⟩
      go_wp2
      apply bodyPost_ret (v := .tuple #[.slice none 0 0, .int .i64 1])
      · simp [results, Tryz.results11, go_sem]
      · rfl
      · rw [HNO.out (fun h => h3 (HRQ.out.trans h.2.2))]; exact ⟨none, 0, rfl, Rd.nil _ _ _ _, Nat.le_refl _, stepW N13 L14⟩
    rw [decide_eq_true h3] at hSm
    have hyes : buildL x.r zs = some B := by
      rw [HBL.out, ← HB.out, if_pos]
      unfold cbOk
      rw [decide_eq_true_eq, ← HQ.out]
      exact ⟨H1.out, h2, HRQ.out.symm.trans h3⟩
    have hy2 := Lib.hid hyes
    clear h3 hyes h2
    go_wp2_with fail
    refine hSm.mono ?_
    rintro e w14 ⟨rfl, L14⟩
    go_wp2
    apply bodyPost_ret (v := .tuple #[.slice A9 B.length c9, .int .i64 0])
    · simp [results, Tryz.results11, go_sem]
    · rfl
    · rw [hy2.out]; exact ⟨A9, c9, rfl, (hrB.belowW (Nat.le_refl _) L14).more L14.size, hc9, stepW N13 L14⟩
end Go.Proofs.YtlambdccmfnloaaGreatDoor
namespace Go.Proofs.YtlambdccmfnloaaGreatDoor
open Go.RowKit
set_option maxRecDepth 100000
set_option maxHeartbeats 4000000

/-- []byte(s), as a rule: what it makes. -/
theorem bytes_rule {P : Program} (src dst e : TypeId) (s : ByteArray) (hs : P.underlying src = some .string) (hd : P.underlying dst = some (.slice e)) (he : P.underlying e = some (.int .u8)) (hl : s.size ≤ maxLen) :
    ∃ (C : World → Nat) (F : World → World), (∀ w, (convert src dst (.string s)).run P w = .ok (.slice (some ⟨w.heap.size, 0, none⟩) s.size (C w)) (F w)) ∧
      (∀ (w : World) (base : Nat), base ≤ w.heap.size → Own (F w) base e 1 (.slice (some ⟨w.heap.size, 0, none⟩) s.size (C w)) s.size (s.data.toList.map bv)) ∧ ∀ w, Below w.heap.size w (F w) := by
  refine ⟨fun w => grownCap w s.size 0 e, fun w => Lib.bytesWorld w e s, fun w => Lib.run_convert_string_bytes (P := P) w src dst e s hs hd he, fun w base hb => ?_, fun w => ?_⟩
  · show Own (Lib.bytesWorld w e s) base e 1 (.slice (some ⟨w.heap.size, 0, none⟩) s.size (grownCap w s.size 0 e)) s.size (s.data.toList.map bv)
    have hge := grownCap_ge w s.size 0 e
    have hcm : grownCap w s.size 0 e ≤ maxLen := grownCap_le_maxLen w s.size 0 e hl
    have hcells : (Lib.bytesCells w e s).size = grownCap w s.size 0 e := by
      simp only [Lib.bytesCells, Array.size_append, Array.size_map, Array.size_replicate]
      have : s.data.size = s.size := rfl
      omega
    refine ⟨by simp, .inr ⟨w.heap.size, _, _, _, rfl, hb, Lib.bytesWorld_at_new w e s, .inr (by rw [hcells]; omega), hge, hcm, by rw [hcells]; omega, ?_⟩⟩
    simp only [Lib.bytesCells, Array.toList_append, Array.toList_map, Nat.mul_one]
    rw [List.take_append_of_le_length (by simp), List.take_of_length_le (by simp)]
  · exact below_of_none ⟨rfl, rfl, rfl, by rw [Lib.bytesWorld_size]; omega, fun k hk _ => Lib.bytesWorld_at_old w e s k hk⟩
/-- A new parser of the document. -/
theorem cbx_new (w : World) : XQ (w.alloc (.cells #[.int .i64 0, .int .i64 0, .pointer none, .slice none 0 0, .int .i64 0, .int .i64 0, .bool false, .bool false, .slice none 0 0, .pointer none, .bool false] 90)) w.heap.size (fun k => k = w.heap.size) p0 :=
  .idle (.pointer none) (.slice none 0 0) (.slice none 0 0) (.pointer none) ⟨0, 0, false, false⟩ false p0 rfl rfl (Blk.new' _ _ rfl _ _)
/-- One whole row is fed to a new parser of the document. -/
theorem xfeed_row {g : Nat} {S : Nat → Prop} {wr : World} {b : Bs} {A : Option Addr} {n d : Nat} (k : XQ wr g S p0) (hA : RdO wr S A n (b.map bv)) (hn : n ≤ 100000) (hd : n ≤ d) :
    Calls Tryz.prog 46 #[.pointer (some ⟨g, 0, none⟩), .slice (some ⟨wr.heap.size, 0, none⟩) 1 1] (wr.alloc (.cells #[.slice A n d] 25)) (XFeedP (wr.alloc (.cells #[.slice A n d] 25)) g S (pFeed p0 b)) := by
  have hbl : b.length = n := by simpa using hA.1.1
  have hlt : ∀ k, S k → k < wr.heap.size := fun _ hk => k.lt hk
  have La := allocW (Below.refl wr.heap.size wr) (.cells #[.slice A n d] 25)
  have rp := RdP.one hlt wr.heap.size rfl 25 b hbl hA hd
  have h9 := xp_Feed g S p0 _ 1 1 _ _ (k.belowW La) p0_inv p0_pb rp (by simp only [List.flatten_cons, List.flatten_nil, List.append_nil]; omega) (by decide)
  rw [List.flatten_cons, List.flatten_nil, List.append_nil] at h9
  exact h9
theorem rqOf_v (p : PS) : (rqOf p).v = p.head.minor := rfl
theorem cb_minor (r : RQ) (zs : List Int) (hv : r.v ≠ 0 ∧ r.v ≠ 1) : buildL r zs = none := by
  unfold buildL
  split
  · obtain ⟨B, hB⟩ : ∃ B, B = cbBytes r zs (printL r.t).1 := ⟨_, rfl⟩
    rw [← hB]
    have hI : PInv (pFeed p0 B).2 := pFeed_inv _ _ p0_inv
    have hno : cbOk r B = false := by
      unfold cbOk
      generalize pFeed p0 B = q at hI
      rw [decide_eq_false_iff_not]
      rintro ⟨-, -, h⟩
      have h2 := rqOf_v q.2
      rw [h] at h2
      have h3 := hI.hd.m0
      have h4 := hI.hd.m1
      omega
    rw [hno]
    rfl
  · rfl
theorem ref26_Build (x : RP) (A2 : Option Addr) (n2 c2 : Nat) (zs : List Int) (w : World) (h1 : RQR w x.r x.af x.ab) (hA2 : Rd w w.heap.size 1 A2 n2 (zs.map (Value.int .i64))) (hxb : x.r.b.length ≤ x.cb)
    (hz1 : x.r.m.length ≤ 4000) (_hz2 : x.r.t.host.length ≤ 4000) (_hz3 : x.r.t.path.length ≤ 4000) (_hz4 : x.r.t.query.length ≤ 4000) (hz5 : fsz x.r.f ≤ 4000) (hz6 : x.r.b.length ≤ 4000) (hz7 : n2 ≤ 100) (hv0 : -9223372036854775808 ≤ x.r.v) (hv1 : x.r.v ≤ 9223372036854775807) :
    Calls Tryz.prog 12 #[rqV x.r x.af x.cf x.ab x.cb, .slice A2 n2 c2] w (BuildPost w (buildL x.r zs)) := by
  rw [rqv_cells]
  have hzl : zs.length = n2 := by simpa using hA2.1
  have LW := allocW (Below.refl w.heap.size w) (.cells #[sv x.r.m, .int .i64 x.r.t.form, sv x.r.t.host, sv x.r.t.path, sv x.r.t.query, .int .i64 x.r.v, .slice x.af x.r.f.length x.cf, .slice x.ab x.r.b.length x.cb, .bool x.r.c, .bool x.r.e] 27)
  have K1 := Blk.new w 27 #[sv x.r.m, .int .i64 x.r.t.form, sv x.r.t.host, sv x.r.t.path, sv x.r.t.query, .int .i64 x.r.v, .slice x.af x.r.f.length x.cf, .slice x.ab x.r.b.length x.cb, .bool x.r.c, .bool x.r.e]
  go_enter Tryz.func12, Tryz.ntmps12
  go_upto_region 1 with (fail)
  generalize w.alloc (.cells #[sv x.r.m, .int .i64 x.r.t.form, sv x.r.t.host, sv x.r.t.path, sv x.r.t.query, .int .i64 x.r.v, .slice x.af x.r.f.length x.cf, .slice x.ab x.r.b.length x.cb, .bool x.r.c, .bool x.r.e] 27) = W at LW K1 ⊢
  obtain ⟨⟨a0, a1, a2, a3, a4, a5, a6, a7, a8, a9⟩, -⟩ := K1.c10
  have hPr : Calls Tryz.prog 41 #[.agg #[.int .i64 x.r.t.form, sv x.r.t.host, sv x.r.t.path, sv x.r.t.query]] W fun e w' => e = .returned (printV (printL x.r.t)) ∧ Below W.heap.size W w' := ref11_Print x.r.t.form ⟨x.r.t.host.toArray⟩ ⟨x.r.t.path.toArray⟩ ⟨x.r.t.query.toArray⟩ W
  by_cases hbad : printL x.r.t = ([], 1)
  · have hbl : buildL x.r zs = none := by unfold buildL; rw [hbad]; rfl
    rw [hbad] at hPr
    unfold printV at hPr
    go_wp2_with fail
    refine hPr.mono ?_
    rintro e w1 ⟨rfl, L1⟩
    go_wp2
    rw [hbl]
    apply bodyPost_ret (v := .tuple #[.slice none 0 0, .int .i64 1])
    · simp [results, Tryz.results12, go_sem]
    · rfl
    · exact ⟨none, 0, rfl, Rd.nil _ _ _ _, Nat.le_refl _, stepW LW L1⟩
  obtain ⟨s, hs, hsl⟩ := (printL_cases x.r.t).resolve_right hbad
  rw [hs] at hPr
  unfold printV at hPr
  have HBL : Hid (buildL x.r zs = if cbOk x.r (cbBytes x.r zs s) then some (cbBytes x.r zs s) else none) := Lib.hid (by unfold buildL; rw [hs]; rfl)
  have hBlen := cbBytes_len x.r zs s hz1 hsl hv1 hz5 hz6 (by omega)
  have hFl := cbFirst_len x.r s hz1 hsl hv1
  go_wp2_with fail
  refine hPr.mono ?_
  rintro e w1 ⟨rfl, L1⟩
  have L1w := stepW LW L1
  have K2 := K1.belowW L1
  have R1 := h1.belowW L1w
  obtain ⟨⟨a0, a1, a2, a3, a4, a5, a6, a7, a8, a9⟩, -⟩ := K2.c10
  clear hPr hs
  by_cases hmn : (x.r.v != 0) = true ∧ (x.r.v != 1) = true
  · obtain ⟨m0, m1⟩ := hmn
    have hbl := cb_minor x.r zs ⟨by simpa using m0, by simpa using m1⟩
    go_wp2
    apply bodyPost_ret (v := .tuple #[.slice none 0 0, .int .i64 1])
    · simp [results, Tryz.results12, go_sem]
    · rfl
    · rw [hbl]; exact ⟨none, 0, rfl, Rd.nil _ _ _ _, Nat.le_refl _, L1w⟩
  have hm2 : ((x.r.v != 0) = false) ∨ (((x.r.v != 0) = true) ∧ ((x.r.v != 1) = false)) := by
    cases h0 : (x.r.v != 0) <;> cases h9 : (x.r.v != 1) <;> simp_all
  clear hmn
  rcases hm2 with m0 | ⟨m0, m1⟩
  all_goals (
    go_upto_region 4 with (fail)
    clear m0)
  · skip
    have hZ : ∀ w', Below w1.heap.size w1 w' → RH0 w.heap.size x w' := fun w' hb => ((K2.belowW hb).c10).1
    have Ld := (Below.refl w1.heap.size w1).drew
    have S0 := hZ w1 (Below.refl _ _)
    have Sd := hZ w1.drew Ld
    have hA1 := ref_Dec x.r.v w1.drew hv1
    have hA3 := fun (w' : World) (L : Below w1.heap.size w1 w') => ref_lines x.af x.r.f.length x.cf x.r.f w' ((R1.belowW L).f) (by omega)
    have hln := hdrsL_len x.r.f
    obtain ⟨Z, hZs⟩ : ∃ Z : ByteArray, Z = (((((⟨x.r.m.toArray⟩ ++ ⟨#[32]⟩) ++ ⟨s.toArray⟩) ++ ⟨#[32, 72, 84, 84, 80, 47, 49, 46]⟩) ++ ⟨(digs 10 x.r.v.toNat).toArray⟩) ++ ⟨#[13, 10]⟩) ++ ⟨(hdrsL x.r.f ++ [13, 10]).toArray⟩ := ⟨_, rfl⟩
    have hZd : Z.data.toList = cheadL (cbFirst x.r s) x.r.f := by
      rw [hZs, app_data, app_data, app_data, app_data, app_data, app_data]
      simp [cheadL, cbFirst]
    have hZn : Z.size = (cheadL (cbFirst x.r s) x.r.f).length := by rw [← hZd, len_data]
    have hZl : Z.size ≤ 20000 := by rw [hZn]; unfold cheadL; simp only [List.length_append, List.length_cons, List.length_nil]; omega
    obtain ⟨CF, BF, kc, hOwn, hBel⟩ := bytes_rule (P := Tryz.prog) 9 25 5 Z Tryz.underlying9 Tryz.underlying25 Tryz.underlying5 (by unfold maxLen; omega)
    rw [hZd, hZn] at hOwn
    rw [hZn] at kc
    obtain ⟨n4, hn4⟩ : ∃ n4, n4 = (cheadL (cbFirst x.r s) x.r.f).length := ⟨_, rfl⟩
    rw [← hn4] at kc hOwn
    rw [hZs] at kc
    have hn4' : n4 ≤ 20000 := by omega
    have HN4 := Lib.hid hn4.symm
    clear hZs hZd hZn hn4 hZl a0 a1 a2 a3 a4 a5 a6 a7 a8 a9
    have hdg := digs10_len x.r.v.toNat (by omega)
    have hq1 : ¬ 9223372036854775807 < x.r.m.length + 1 := by omega
    have hq2 : ¬ 9223372036854775807 < x.r.m.length + 1 + s.length := by omega
    have hq3 : ¬ 9223372036854775807 < x.r.m.length + 1 + s.length + 8 := by omega
    have hq4 : ¬ 9223372036854775807 < x.r.m.length + 1 + s.length + 8 + (digs 10 x.r.v.toNat).length := by omega
    have hq5 : ¬ 9223372036854775807 < x.r.m.length + 1 + s.length + 8 + (digs 10 x.r.v.toNat).length + 2 := by omega
    have hq6 : ¬ 9223372036854775807 < x.r.m.length + 1 + s.length + 8 + (digs 10 x.r.v.toNat).length + 2 + ((hdrsL x.r.f).length + 2) := by omega
    have hq7 : ¬ 9223372036854775807 < x.r.m.length + 1 + s.length + 8 + (digs 10 x.r.v.toNat).length + 2 + (hdrsL x.r.f ++ [13, 10]).length := by rw [List.length_append]; exact hq6
    refine wp_region_noPanic ?_
    refine wp_region_held_drew (S := fun w' => RH0 w.heap.size x w') (by kernel_rfl) Sd (fun hHeld => ?_)
    refine wpAnyH_take (i := 0) (v := ?_) rfl (by kernel_rfl) (by kernel_rfl) (by kernel_rfl) (fun _ _ _ h => h) (Or.inl ⟨by rfl, ?_⟩) (by assumption) ?_
    rotate_left
    · intro w9 hSw
      (try dsimp only at hSw)
      go_simp <;> with_reducible rfl
    (try simp only [Act.put, List.setIfInBounds_toArray])
    refine wpAnyH_take (i := 1) (v := ?_) rfl (by kernel_rfl) (by kernel_rfl) (by kernel_rfl) (fun _ _ _ h => h) (Or.inl ⟨by rfl, ?_⟩) (by assumption) ?_
    rotate_left
    · intro w9 hSw
      (try dsimp only at hSw)
      go_simp <;> with_reducible rfl
    (try simp only [Act.put])
    refine wpAnyH_take (i := 2) (v := ?_) rfl (by kernel_rfl) (by kernel_rfl) (by kernel_rfl) (fun _ _ _ h => h) (Or.inl ⟨by rfl, ?_⟩) (by assumption) ?_
    rotate_left
    · intro w9 hSw
      (try dsimp only at hSw)
      go_simp <;> with_reducible rfl
    (try simp only [Act.put])
    refine wpAnyH_take (i := 3) (v := ?_) rfl (by kernel_rfl) (by kernel_rfl) (by kernel_rfl) (fun _ _ _ h => h) (Or.inl ⟨by rfl, ?_⟩) (by assumption) ?_
    rotate_left
    · intro w9 hSw
      (try dsimp only at hSw)
      go_simp <;> with_reducible rfl
    (try simp only [Act.put])
    refine wpAnyH_take (i := 4) (v := ?_) rfl (by kernel_rfl) (by kernel_rfl) (by kernel_rfl) (fun _ _ _ h => h) (Or.inl ⟨by rfl, ?_⟩) (by assumption) ?_
    rotate_left
    · intro w9 hSw
      (try dsimp only at hSw)
      go_simp <;> with_reducible rfl
    (try simp only [Act.put])
    refine wpAnyH_take (i := 5) (v := ?_) rfl (by kernel_rfl) (by kernel_rfl) (by kernel_rfl) (fun _ _ _ h => h) (Or.inl ⟨by rfl, ?_⟩) (by assumption) ?_
    rotate_left
    · intro w9 hSw
      (try dsimp only at hSw)
      go_simp <;> with_reducible rfl
    (try simp only [Act.put])
    refine wpAnyH_take (i := 6) (v := ?_) rfl (by kernel_rfl) (by kernel_rfl) (by kernel_rfl) (fun _ _ _ h => h) (Or.inl ⟨by rfl, ?_⟩) (by assumption) ?_
    rotate_left
    · intro w9 hSw
      (try dsimp only at hSw)
      go_simp <;> with_reducible rfl
    (try simp only [Act.put])
    refine wpAnyH_take (i := 7) (v := ?_) rfl (by kernel_rfl) (by kernel_rfl) (by kernel_rfl) (fun _ _ _ h => h) (Or.inl ⟨by rfl, ?_⟩) (by assumption) ?_
    rotate_left
    · intro w9 hSw
      (try dsimp only at hSw)
      go_simp <;> with_reducible rfl
    (try simp only [Act.put])
    refine wpAnyH_take (i := 11) (v := ?_) rfl (by kernel_rfl) (by kernel_rfl) (by kernel_rfl) (fun _ _ _ h => h) (Or.inl ⟨by rfl, ?_⟩) (by assumption) ?_
    rotate_left
    · intro w9 hSw
      (try dsimp only at hSw)
      go_simp <;> with_reducible rfl
    (try simp only [Act.put])
    refine wpAnyH_take (i := 12) (v := ?_) rfl (by kernel_rfl) (by kernel_rfl) (by kernel_rfl) (fun _ _ _ h => h) (Or.inl ⟨by rfl, ?_⟩) (by assumption) ?_
    rotate_left
    · intro w9 hSw
      (try dsimp only at hSw)
      go_simp <;> with_reducible rfl
    (try simp only [Act.put])
    refine wpAnyH_ready (rs := [8]) (by kernel_rfl) (by simp) ?_
    refine AllReadyH.cons rfl (fun K hK => ?_) AllReadyH.nil
    go_simp
    go_at_call 42
    refine hA1.mono ?_
    rintro e w5 ⟨rfl, L5⟩
    have N5 := stepW Ld L5
    have S5 := hZ w5 N5
    go_wp2_with fail
    refine hK.out _ _ S5 (fun hHeld => ?_)
    clear hK K
    (try simp only [Act.put, List.setIfInBounds_toArray, List.set_cons_zero, List.set_cons_succ])
    refine wpAnyH_take (i := 9) (v := ?_) rfl (by kernel_rfl) (by kernel_rfl) (by kernel_rfl) (fun _ _ _ h => h) (Or.inl ⟨by rfl, ?_⟩) (by assumption) ?_
    rotate_left
    · intro w9 hSw
      (try dsimp only at hSw)
      go_simp <;> with_reducible rfl
    (try simp only [Act.put, List.setIfInBounds_toArray])
    refine wpAnyH_take (i := 10) (v := ?_) rfl (by kernel_rfl) (by kernel_rfl) (by kernel_rfl) (fun _ _ _ h => h) (Or.inl ⟨by rfl, ?_⟩) (by assumption) ?_
    rotate_left
    · intro w9 hSw
      (try dsimp only at hSw)
      go_simp <;> with_reducible rfl
    (try simp only [Act.put])
    refine wpAnyH_ready (rs := [13]) (by kernel_rfl) (by simp) ?_
    refine AllReadyH.cons rfl (fun K hK => ?_) AllReadyH.nil
    go_simp
    go_at_call 43
    refine (hA3 _ N5).mono ?_
    rintro e w6 ⟨rfl, L6⟩
    have N6 := stepW N5 L6
    have S6 := hZ w6 N6
    have N7 := stepW N6 (hBel w6)
    have S7 := hZ (BF w6) N7
    go_wp2_with fail
    refine hK.out _ _ S6 (fun hHeld => ?_)
    clear hK K
    (try simp only [Act.put, List.setIfInBounds_toArray, List.set_cons_zero, List.set_cons_succ])
    refine wpAnyH_take (i := 14) (v := ?_) rfl (by kernel_rfl) (by kernel_rfl) (by kernel_rfl) (fun _ _ _ h => h) (Or.inl ⟨by rfl, ?_⟩) (by assumption) ?_
    rotate_left
    · intro w9 hSw
      (try dsimp only at hSw)
      go_simp <;> with_reducible rfl
    (try simp only [Act.put, List.setIfInBounds_toArray])
    refine wpAnyH_ready (rs := [15]) (by kernel_rfl) (by simp) ?_
    refine AllReadyH.cons rfl (fun K hK => ?_) AllReadyH.nil
    go_simp
    refine hK.out _ _ S7 (fun hHeld => ?_)
    clear hK K
    (try simp only [Act.put, List.setIfInBounds_toArray, List.set_cons_zero, List.set_cons_succ])
    refine wpAnyH_take (i := 16) (v := ?_) rfl (by kernel_rfl) (by kernel_rfl) (by kernel_rfl) (fun _ _ _ h => h) (Or.inl ⟨by rfl, ?_⟩) (by assumption) ?_
    rotate_left
    · intro w9 hSw
      (try dsimp only at hSw)
      go_simp <;> with_reducible rfl
    (try simp only [Act.put, List.setIfInBounds_toArray])
    refine wpAnyH_done (by kernel_rfl) ?_ _
    refine NoPanic.normal ?_
    obtain ⟨B, hB⟩ : ∃ B, B = cbBytes x.r zs s := ⟨_, rfl⟩
    rw [← hB] at hBlen
    have ho8 : Own (BF w6) w1.heap.size 5 1 (.slice (some ⟨w6.heap.size, 0, none⟩) n4 (CF w6)) n4 ((cheadL (cbFirst x.r s) x.r.f).map bv) := hOwn w6 w1.heap.size N6.size
    have hBe : B = cheadL (cbFirst x.r s) x.r.f ++ (if zs = [] then x.r.b else encL (partsL zs x.r.b)) := by rw [hB, cbBytes]
    have R7 := R1.belowW N7
    have K7 := K2.belowW N7
    obtain ⟨⟨a0, a1, a2, a3, a4, a5, a6, a7, a8, a9⟩, -⟩ := K7.c10
    have hA7 := (hA2.below (stepW L1w N7)).more (stepW L1w N7).size
    obtain ⟨H, hH⟩ : ∃ H, H = cheadL (cbFirst x.r s) x.r.f := ⟨_, rfl⟩
    have hn4 := HN4.out
    rw [← hH] at ho8 hn4 hBe
    have HB := Lib.hid hB
    have HBE := Lib.hid hBe
    have HN5 := Lib.hid hn4
    clear hB hH hBe hn4 S7 kc hOwn hBel
    obtain ⟨i8, hi8, hy0, hy1, hy2⟩ := info_parts info_u8
    go_upto_if 48 with (fail)
    go_cut [8] (fun v8 wx => ∃ (A9 : Option Addr) (c9 : Nat), v8 = .slice A9 B.length c9 ∧ Own wx w1.heap.size 5 1 (.slice A9 B.length c9) B.length (B.map bv) ∧ Below w1.heap.size w1 wx)
    case first =>
      by_cases hz : n2 = 0
      · have hzs : zs = [] := List.eq_nil_of_length_eq_zero (by omega)
        have hBe2 : B = H ++ x.r.b := by rw [HBE.out, if_pos hzs]
        have hlen : B.length = n4 + x.r.b.length := by rw [hBe2, List.length_append, HN5.out]
        have hmap : B.map bv = H.map bv ++ x.r.b.map bv := by rw [hBe2, List.map_append]
        have HLEN := Lib.hid hlen
        have HMAP := Lib.hid hmap
        have hz' : ¬ 0 < n2 := by omega
        have hz'' : decide (0 < n2) = false := decide_eq_false hz'
        clear hBe2 hlen hmap hzs hz
        go_wp2_with (at_builtin
                     refine wpList_append_Own _ rfl (.tmp 56) (.tmp 58) 25 25 rfl w1.heap.size 5 i8 _ 1 1 Tryz.underlying25 (.inl Tryz.underlying25) hi8 hy0 hy1 hy2 rfl (by decide) (.slice (some ⟨w6.heap.size, 0, none⟩) n4 (CF w6)) n4 _ rfl ho8 _ x.r.b.length (x.r.b.map bv) rfl (Src.of_rd R7.b (by intro u hu; obtain ⟨y, -, rfl⟩ := List.mem_map.1 hu; rfl)) (by have := HLEN.out; unfold maxLen; omega) (by have := HLEN.out; omega) N7.size ?_
                     intro v9 w9 ho9 hg9 hat9
                     obtain ⟨A9, c9, hv9, n9, m9, r9, q9⟩ := ho9.rd
                     subst hv9)
        go_meet
        case rel => exact ⟨A9, c9, by rw [HLEN.out], by rw [HLEN.out, HMAP.out]; exact ho9, growW N7 hg9 (fun j hj => (ho8.lt j hj).1)⟩
      · have hzs : zs ≠ [] := fun h => by rw [h] at hzl; simp at hzl; omega
        have hBe2 : B = H ++ encL (partsL zs x.r.b) := by rw [HBE.out, if_neg hzs]
        obtain ⟨E, hE⟩ : ∃ E, E = encL (partsL zs x.r.b) := ⟨_, rfl⟩
        rw [← hE] at hBe2
        have hlen : B.length = n4 + E.length := by rw [hBe2, List.length_append, HN5.out]
        have hmap : B.map bv = H.map bv ++ E.map bv := by rw [hBe2, List.map_append]
        have HLEN := Lib.hid hlen
        have HMAP := Lib.hid hmap
        have HE := Lib.hid hE
        have hpc := cb_enc zs x.r.b hz6 (by omega)
        have hpl := partsL_len zs x.r.b
        have hP := ref26_parts x.ab x.r.b.length x.cb x.r.b A2 n2 c2 zs (BF w6) R7.b hA7 hxb (by omega) (by omega)
        unfold PartsPost at hP
        generalize partsL zs x.r.b = PS at hP hpc hpl HE
        have HPL := Lib.hid hpl
        have hz' : 0 < n2 := by omega
        have hz'' : decide (0 < n2) = true := decide_eq_true hz'
        clear hBe2 hlen hmap hzs hE hpl
        go_wp2_with fail
        refine hP.mono ?_
        rintro e w8 ⟨AP, cP, rfl, hS, L8⟩
        have N8 := stepW N7 L8
        go_wp2_with fail
        refine (ref14_Encode AP PS.length cP w8.heap.size PS w8 hS (Nat.le_refl _) (by omega) (by have := HPL.out; omega)).mono ?_
        rintro e w9 ⟨vE, rfl, hoE, L9⟩
        have N9 := stepW N8 L9
        rw [← HE.out] at hoE
        obtain ⟨AE, cE, rfl, -, -, hrE⟩ := hoE.form
        have ho9 := (ho8.belowW L8).belowW L9
        go_wp2_with (at_builtin
                     refine wpList_append_Own _ rfl (.tmp 49) (.tmp 54) 25 25 rfl w1.heap.size 5 i8 _ 1 1 Tryz.underlying25 (.inl Tryz.underlying25) hi8 hy0 hy1 hy2 rfl (by decide) (.slice (some ⟨w6.heap.size, 0, none⟩) n4 (CF w6)) n4 _ rfl ho9 _ E.length (E.map bv) rfl (Src.of_rd hrE (by intro u hu; obtain ⟨y, -, rfl⟩ := List.mem_map.1 hu; rfl)) (by have := HLEN.out; unfold maxLen; omega) (by have := HLEN.out; omega) N9.size ?_
                     intro v10 w10 ho10 hg10 hat10
                     obtain ⟨A10, c10, hv10, n10, m10, r10, q10⟩ := ho10.rd
                     subst hv10)
        go_meet
        case rel => exact ⟨A10, c10, by rw [HLEN.out], by rw [HLEN.out, HMAP.out]; exact ho10, growW N9 hg10 (fun j hj => (ho9.lt j hj).1)⟩
    case rest =>
      obtain ⟨A9, c9, rfl, ho9, N9⟩ := hcut
      obtain ⟨wx, rfl⟩ : ∃ wx, wx = wc := ⟨_, rfl⟩
      have N9w := stepW L1w N9
      have K9 := K2.belowW N9
      have R9 := R1.belowW N9
      obtain ⟨hc9, -, hr9⟩ := ho9.rdS
      clear K7 R7 a0 a1 a2 a3 a4 a5 a6 a7 a8 a9 hA7 ho8 N7
      have hk := cbx_new wx
      have L10 := allocW (Below.refl wx.heap.size wx) (.cells #[.int .i64 0, .int .i64 0, .pointer none, .slice none 0 0, .int .i64 0, .int .i64 0, .bool false, .bool false, .slice none 0 0, .pointer none, .bool false] 90)
      obtain ⟨g, hg⟩ : ∃ g, g = wx.heap.size := ⟨_, rfl⟩
      rw [← hg] at hk
      have hS0 : ∀ k, k = g → wx.heap.size ≤ k := fun k hk => by rw [hk, hg]; exact Nat.le_refl _
      go_upto_region 9 with (fail)
      rw [← hg]
      clear hg
      generalize wx.alloc (.cells #[.int .i64 0, .int .i64 0, .pointer none, .slice none 0 0, .int .i64 0, .int .i64 0, .bool false, .bool false, .slice none 0 0, .pointer none, .bool false] 90) = w10 at hk L10 ⊢
      have hr10 := (hr9.belowW (Nat.le_refl _) L10).more L10.size
      have hF := xfeed_row hk ⟨hr10, hr9.off hS0⟩ (by omega) hc9
      obtain ⟨q, hq⟩ : ∃ q, q = pFeed p0 B := ⟨_, rfl⟩
      rw [← hq] at hF
      have HQ := Lib.hid hq
      clear hq
      go_wp2_with fail
      refine hF.mono ?_
      rintro e w11 ⟨rfl, S11, k11, m11⟩
      have hi11 : PInv q.2 := by rw [HQ.out]; exact pFeed_inv _ _ p0_inv
      have L11 := moved_below m11 (stepW L10 (allocW (Below.refl w10.heap.size w10) _)) hS0
      have hS11 := moved_hs m11 (Nat.le_trans L10.size (allocW (Below.refl w10.heap.size w10) _).size) hS0
      have hT := xp_TakeA g S11 q.2 w11 k11 hi11
      unfold XTakeA at hT
      have hRs := rT_len q.2 hi11
      obtain ⟨R, hR⟩ : ∃ R, R = rT q.2 := ⟨_, rfl⟩
      obtain ⟨ER, hER⟩ : ∃ ER, ER = eT q.2 := ⟨_, rfl⟩
      rw [← hR, ← hER] at hT
      rw [← hR] at hRs
      simp only [rqv_cells] at hT
      have HR := Lib.hid hR
      have HER := Lib.hid hER
      clear hR hER hF
      go_wp2_with fail
      refine hT.mono ?_
      rintro e w12 ⟨AF, cF, AB, cB, rfl, hr12, -, S12, k12, m12⟩
      have L12 := moved_below m12 L11 hS11
      have Ba := Blk.new w12 27 #[sv R.m, .int .i64 R.t.form, sv R.t.host, sv R.t.path, sv R.t.query, .int .i64 R.v, .slice AF R.f.length cF, .slice AB R.b.length cB, .bool R.c, .bool R.e]
      have La := allocW (Below.refl w12.heap.size w12) (.cells #[sv R.m, .int .i64 R.t.form, sv R.t.host, sv R.t.path, sv R.t.query, .int .i64 R.v, .slice AF R.f.length cF, .slice AB R.b.length cB, .bool R.c, .bool R.e] 27)
      have L13 := stepW L12 La
      have R13 := R9.belowW L13
      have K13 := K9.belowW L13
      have hr13 := hr12.belowW La
      have hrB := (hr9.belowW (Nat.le_refl _) L13).more L13.size
      go_upto_region 11 with (fail)
      generalize w12.alloc (.cells #[sv R.m, .int .i64 R.t.form, sv R.t.host, sv R.t.path, sv R.t.query, .int .i64 R.v, .slice AF R.f.length cF, .slice AB R.b.length cB, .bool R.c, .bool R.e] 27) = w13 at Ba La L13 R13 K13 hr13 hrB ⊢
      have N13 := stepW N9w L13
      have hSm := ref16_Same ⟨R, AF, cF, AB, cB⟩ x w13 hr13 R13 hRs.1 hRs.2
      simp only [rqv_cells] at hSm
      obtain ⟨⟨b0, b1, b2, b3, b4, b5, b6, b7, b8, b9⟩, -⟩ := Ba.c10
      obtain ⟨⟨a0, a1, a2, a3, a4, a5, a6, a7, a8, a9⟩, -⟩ := K13.c10
      have hno : ¬ ((pFeed p0 B).1 = B.length ∧ (pFeed p0 B).2.phase = 3 ∧ rqOf (pFeed p0 B).2 = x.r) → buildL x.r zs = none := fun h => by rw [HBL.out, ← HB.out, if_neg (by unfold cbOk; rw [decide_eq_true_eq]; exact h)]
      rw [← HQ.out] at hno
      have HNO := Lib.hid hno
      clear hno
      by_cases h1 : q.1 = B.length
      case neg =>
        have h1' : ((q.1 : Int) != (B.length : Int)) = true := by simp; omega
        go_wp2
        apply bodyPost_ret (v := .tuple #[.slice none 0 0, .int .i64 1])
        · simp [results, Tryz.results12, go_sem]
        · rfl
        · rw [HNO.out (fun h => h1 h.1)]; exact ⟨none, 0, rfl, Rd.nil _ _ _ _, Nat.le_refl _, N13⟩
      have h1' : ((q.1 : Int) != (B.length : Int)) = false := by simp; omega
      have H1 := Lib.hid h1
      clear h1
      by_cases h2 : q.2.phase = 3
      case neg =>
        have h2' : (ER != 0) = true := by rw [HER.out, eT, if_neg h2]; rfl
        go_wp2
        apply bodyPost_ret (v := .tuple #[.slice none 0 0, .int .i64 1])
        · simp [results, Tryz.results12, go_sem]
        · rfl
        · rw [HNO.out (fun h => h2 h.2.1)]; exact ⟨none, 0, rfl, Rd.nil _ _ _ _, Nat.le_refl _, N13⟩
      have h2' : (ER != 0) = false := by rw [HER.out, eT, if_pos h2]; rfl
      have hRq : R = rqOf q.2 := by rw [HR.out, rT, if_pos h2]
      have HRQ := Lib.hid hRq
      clear hRq
      by_cases h3 : R = x.r
      case neg =>
        rw [decide_eq_false h3] at hSm
        go_wp2_with fail
        refine hSm.mono ?_
        rintro e w14 ⟨rfl, L14⟩
        go_wp2
        apply bodyPost_ret (v := .tuple #[.slice none 0 0, .int .i64 1])
        · simp [results, Tryz.results12, go_sem]
        · rfl
        · rw [HNO.out (fun h => h3 (HRQ.out.trans h.2.2))]; exact ⟨none, 0, rfl, Rd.nil _ _ _ _, Nat.le_refl _, stepW N13 L14⟩
      rw [decide_eq_true h3] at hSm
      have hyes : buildL x.r zs = some B := by
        rw [HBL.out, ← HB.out, if_pos]
        unfold cbOk
        rw [decide_eq_true_eq, ← HQ.out]
        exact ⟨H1.out, h2, HRQ.out.symm.trans h3⟩
      have hy2 := Lib.hid hyes
      clear h3 hyes h2
      go_wp2_with fail
      refine hSm.mono ?_
      rintro e w14 ⟨rfl, L14⟩
      go_wp2
      apply bodyPost_ret (v := .tuple #[.slice A9 B.length c9, .int .i64 0])
      · simp [results, Tryz.results12, go_sem]
      · rfl
      · rw [hy2.out]; exact ⟨A9, c9, rfl, (hrB.belowW (Nat.le_refl _) L14).more L14.size, hc9, stepW N13 L14⟩

  · skip
    have hZ : ∀ w', Below w1.heap.size w1 w' → RH0 w.heap.size x w' := fun w' hb => ((K2.belowW hb).c10).1
    have Ld := (Below.refl w1.heap.size w1).drew
    have S0 := hZ w1 (Below.refl _ _)
    have Sd := hZ w1.drew Ld
    have hA1 := ref_Dec x.r.v w1.drew hv1
    have hA3 := fun (w' : World) (L : Below w1.heap.size w1 w') => ref_lines x.af x.r.f.length x.cf x.r.f w' ((R1.belowW L).f) (by omega)
    have hln := hdrsL_len x.r.f
    obtain ⟨Z, hZs⟩ : ∃ Z : ByteArray, Z = (((((⟨x.r.m.toArray⟩ ++ ⟨#[32]⟩) ++ ⟨s.toArray⟩) ++ ⟨#[32, 72, 84, 84, 80, 47, 49, 46]⟩) ++ ⟨(digs 10 x.r.v.toNat).toArray⟩) ++ ⟨#[13, 10]⟩) ++ ⟨(hdrsL x.r.f ++ [13, 10]).toArray⟩ := ⟨_, rfl⟩
    have hZd : Z.data.toList = cheadL (cbFirst x.r s) x.r.f := by
      rw [hZs, app_data, app_data, app_data, app_data, app_data, app_data]
      simp [cheadL, cbFirst]
    have hZn : Z.size = (cheadL (cbFirst x.r s) x.r.f).length := by rw [← hZd, len_data]
    have hZl : Z.size ≤ 20000 := by rw [hZn]; unfold cheadL; simp only [List.length_append, List.length_cons, List.length_nil]; omega
    obtain ⟨CF, BF, kc, hOwn, hBel⟩ := bytes_rule (P := Tryz.prog) 9 25 5 Z Tryz.underlying9 Tryz.underlying25 Tryz.underlying5 (by unfold maxLen; omega)
    rw [hZd, hZn] at hOwn
    rw [hZn] at kc
    obtain ⟨n4, hn4⟩ : ∃ n4, n4 = (cheadL (cbFirst x.r s) x.r.f).length := ⟨_, rfl⟩
    rw [← hn4] at kc hOwn
    rw [hZs] at kc
    have hn4' : n4 ≤ 20000 := by omega
    have HN4 := Lib.hid hn4.symm
    clear hZs hZd hZn hn4 hZl a0 a1 a2 a3 a4 a5 a6 a7 a8 a9
    have hdg := digs10_len x.r.v.toNat (by omega)
    have hq1 : ¬ 9223372036854775807 < x.r.m.length + 1 := by omega
    have hq2 : ¬ 9223372036854775807 < x.r.m.length + 1 + s.length := by omega
    have hq3 : ¬ 9223372036854775807 < x.r.m.length + 1 + s.length + 8 := by omega
    have hq4 : ¬ 9223372036854775807 < x.r.m.length + 1 + s.length + 8 + (digs 10 x.r.v.toNat).length := by omega
    have hq5 : ¬ 9223372036854775807 < x.r.m.length + 1 + s.length + 8 + (digs 10 x.r.v.toNat).length + 2 := by omega
    have hq6 : ¬ 9223372036854775807 < x.r.m.length + 1 + s.length + 8 + (digs 10 x.r.v.toNat).length + 2 + ((hdrsL x.r.f).length + 2) := by omega
    have hq7 : ¬ 9223372036854775807 < x.r.m.length + 1 + s.length + 8 + (digs 10 x.r.v.toNat).length + 2 + (hdrsL x.r.f ++ [13, 10]).length := by rw [List.length_append]; exact hq6
    refine wp_region_noPanic ?_
    refine wp_region_held_drew (S := fun w' => RH0 w.heap.size x w') (by kernel_rfl) Sd (fun hHeld => ?_)
    refine wpAnyH_take (i := 0) (v := ?_) rfl (by kernel_rfl) (by kernel_rfl) (by kernel_rfl) (fun _ _ _ h => h) (Or.inl ⟨by rfl, ?_⟩) (by assumption) ?_
    rotate_left
    · intro w9 hSw
      (try dsimp only at hSw)
      go_simp <;> with_reducible rfl
    (try simp only [Act.put, List.setIfInBounds_toArray])
    refine wpAnyH_take (i := 1) (v := ?_) rfl (by kernel_rfl) (by kernel_rfl) (by kernel_rfl) (fun _ _ _ h => h) (Or.inl ⟨by rfl, ?_⟩) (by assumption) ?_
    rotate_left
    · intro w9 hSw
      (try dsimp only at hSw)
      go_simp <;> with_reducible rfl
    (try simp only [Act.put])
    refine wpAnyH_take (i := 2) (v := ?_) rfl (by kernel_rfl) (by kernel_rfl) (by kernel_rfl) (fun _ _ _ h => h) (Or.inl ⟨by rfl, ?_⟩) (by assumption) ?_
    rotate_left
    · intro w9 hSw
      (try dsimp only at hSw)
      go_simp <;> with_reducible rfl
    (try simp only [Act.put])
    refine wpAnyH_take (i := 3) (v := ?_) rfl (by kernel_rfl) (by kernel_rfl) (by kernel_rfl) (fun _ _ _ h => h) (Or.inl ⟨by rfl, ?_⟩) (by assumption) ?_
    rotate_left
    · intro w9 hSw
      (try dsimp only at hSw)
      go_simp <;> with_reducible rfl
    (try simp only [Act.put])
    refine wpAnyH_take (i := 4) (v := ?_) rfl (by kernel_rfl) (by kernel_rfl) (by kernel_rfl) (fun _ _ _ h => h) (Or.inl ⟨by rfl, ?_⟩) (by assumption) ?_
    rotate_left
    · intro w9 hSw
      (try dsimp only at hSw)
      go_simp <;> with_reducible rfl
    (try simp only [Act.put])
    refine wpAnyH_take (i := 5) (v := ?_) rfl (by kernel_rfl) (by kernel_rfl) (by kernel_rfl) (fun _ _ _ h => h) (Or.inl ⟨by rfl, ?_⟩) (by assumption) ?_
    rotate_left
    · intro w9 hSw
      (try dsimp only at hSw)
      go_simp <;> with_reducible rfl
    (try simp only [Act.put])
    refine wpAnyH_take (i := 6) (v := ?_) rfl (by kernel_rfl) (by kernel_rfl) (by kernel_rfl) (fun _ _ _ h => h) (Or.inl ⟨by rfl, ?_⟩) (by assumption) ?_
    rotate_left
    · intro w9 hSw
      (try dsimp only at hSw)
      go_simp <;> with_reducible rfl
    (try simp only [Act.put])
    refine wpAnyH_take (i := 7) (v := ?_) rfl (by kernel_rfl) (by kernel_rfl) (by kernel_rfl) (fun _ _ _ h => h) (Or.inl ⟨by rfl, ?_⟩) (by assumption) ?_
    rotate_left
    · intro w9 hSw
      (try dsimp only at hSw)
      go_simp <;> with_reducible rfl
    (try simp only [Act.put])
    refine wpAnyH_take (i := 11) (v := ?_) rfl (by kernel_rfl) (by kernel_rfl) (by kernel_rfl) (fun _ _ _ h => h) (Or.inl ⟨by rfl, ?_⟩) (by assumption) ?_
    rotate_left
    · intro w9 hSw
      (try dsimp only at hSw)
      go_simp <;> with_reducible rfl
    (try simp only [Act.put])
    refine wpAnyH_take (i := 12) (v := ?_) rfl (by kernel_rfl) (by kernel_rfl) (by kernel_rfl) (fun _ _ _ h => h) (Or.inl ⟨by rfl, ?_⟩) (by assumption) ?_
    rotate_left
    · intro w9 hSw
      (try dsimp only at hSw)
      go_simp <;> with_reducible rfl
    (try simp only [Act.put])
    refine wpAnyH_ready (rs := [8]) (by kernel_rfl) (by simp) ?_
    refine AllReadyH.cons rfl (fun K hK => ?_) AllReadyH.nil
    go_simp
    go_at_call 42
    refine hA1.mono ?_
    rintro e w5 ⟨rfl, L5⟩
    have N5 := stepW Ld L5
    have S5 := hZ w5 N5
    go_wp2_with fail
    refine hK.out _ _ S5 (fun hHeld => ?_)
    clear hK K
    (try simp only [Act.put, List.setIfInBounds_toArray, List.set_cons_zero, List.set_cons_succ])
    refine wpAnyH_take (i := 9) (v := ?_) rfl (by kernel_rfl) (by kernel_rfl) (by kernel_rfl) (fun _ _ _ h => h) (Or.inl ⟨by rfl, ?_⟩) (by assumption) ?_
    rotate_left
    · intro w9 hSw
      (try dsimp only at hSw)
      go_simp <;> with_reducible rfl
    (try simp only [Act.put, List.setIfInBounds_toArray])
    refine wpAnyH_take (i := 10) (v := ?_) rfl (by kernel_rfl) (by kernel_rfl) (by kernel_rfl) (fun _ _ _ h => h) (Or.inl ⟨by rfl, ?_⟩) (by assumption) ?_
    rotate_left
    · intro w9 hSw
      (try dsimp only at hSw)
      go_simp <;> with_reducible rfl
    (try simp only [Act.put])
    refine wpAnyH_ready (rs := [13]) (by kernel_rfl) (by simp) ?_
    refine AllReadyH.cons rfl (fun K hK => ?_) AllReadyH.nil
    go_simp
    go_at_call 43
    refine (hA3 _ N5).mono ?_
    rintro e w6 ⟨rfl, L6⟩
    have N6 := stepW N5 L6
    have S6 := hZ w6 N6
    have N7 := stepW N6 (hBel w6)
    have S7 := hZ (BF w6) N7
    go_wp2_with fail
    refine hK.out _ _ S6 (fun hHeld => ?_)
    clear hK K
    (try simp only [Act.put, List.setIfInBounds_toArray, List.set_cons_zero, List.set_cons_succ])
    refine wpAnyH_take (i := 14) (v := ?_) rfl (by kernel_rfl) (by kernel_rfl) (by kernel_rfl) (fun _ _ _ h => h) (Or.inl ⟨by rfl, ?_⟩) (by assumption) ?_
    rotate_left
    · intro w9 hSw
      (try dsimp only at hSw)
      go_simp <;> with_reducible rfl
    (try simp only [Act.put, List.setIfInBounds_toArray])
    refine wpAnyH_ready (rs := [15]) (by kernel_rfl) (by simp) ?_
    refine AllReadyH.cons rfl (fun K hK => ?_) AllReadyH.nil
    go_simp
    refine hK.out _ _ S7 (fun hHeld => ?_)
    clear hK K
    (try simp only [Act.put, List.setIfInBounds_toArray, List.set_cons_zero, List.set_cons_succ])
    refine wpAnyH_take (i := 16) (v := ?_) rfl (by kernel_rfl) (by kernel_rfl) (by kernel_rfl) (fun _ _ _ h => h) (Or.inl ⟨by rfl, ?_⟩) (by assumption) ?_
    rotate_left
    · intro w9 hSw
      (try dsimp only at hSw)
      go_simp <;> with_reducible rfl
    (try simp only [Act.put, List.setIfInBounds_toArray])
    refine wpAnyH_done (by kernel_rfl) ?_ _
    refine NoPanic.normal ?_
    obtain ⟨B, hB⟩ : ∃ B, B = cbBytes x.r zs s := ⟨_, rfl⟩
    rw [← hB] at hBlen
    have ho8 : Own (BF w6) w1.heap.size 5 1 (.slice (some ⟨w6.heap.size, 0, none⟩) n4 (CF w6)) n4 ((cheadL (cbFirst x.r s) x.r.f).map bv) := hOwn w6 w1.heap.size N6.size
    have hBe : B = cheadL (cbFirst x.r s) x.r.f ++ (if zs = [] then x.r.b else encL (partsL zs x.r.b)) := by rw [hB, cbBytes]
    have R7 := R1.belowW N7
    have K7 := K2.belowW N7
    obtain ⟨⟨a0, a1, a2, a3, a4, a5, a6, a7, a8, a9⟩, -⟩ := K7.c10
    have hA7 := (hA2.below (stepW L1w N7)).more (stepW L1w N7).size
    obtain ⟨H, hH⟩ : ∃ H, H = cheadL (cbFirst x.r s) x.r.f := ⟨_, rfl⟩
    have hn4 := HN4.out
    rw [← hH] at ho8 hn4 hBe
    have HB := Lib.hid hB
    have HBE := Lib.hid hBe
    have HN5 := Lib.hid hn4
    clear hB hH hBe hn4 S7 kc hOwn hBel
    obtain ⟨i8, hi8, hy0, hy1, hy2⟩ := info_parts info_u8
    go_upto_if 48 with (fail)
    go_cut [8] (fun v8 wx => ∃ (A9 : Option Addr) (c9 : Nat), v8 = .slice A9 B.length c9 ∧ Own wx w1.heap.size 5 1 (.slice A9 B.length c9) B.length (B.map bv) ∧ Below w1.heap.size w1 wx)
    case first =>
      by_cases hz : n2 = 0
      · have hzs : zs = [] := List.eq_nil_of_length_eq_zero (by omega)
        have hBe2 : B = H ++ x.r.b := by rw [HBE.out, if_pos hzs]
        have hlen : B.length = n4 + x.r.b.length := by rw [hBe2, List.length_append, HN5.out]
        have hmap : B.map bv = H.map bv ++ x.r.b.map bv := by rw [hBe2, List.map_append]
        have HLEN := Lib.hid hlen
        have HMAP := Lib.hid hmap
        have hz' : ¬ 0 < n2 := by omega
        have hz'' : decide (0 < n2) = false := decide_eq_false hz'
        clear hBe2 hlen hmap hzs hz
        go_wp2_with (at_builtin
                     refine wpList_append_Own _ rfl (.tmp 56) (.tmp 58) 25 25 rfl w1.heap.size 5 i8 _ 1 1 Tryz.underlying25 (.inl Tryz.underlying25) hi8 hy0 hy1 hy2 rfl (by decide) (.slice (some ⟨w6.heap.size, 0, none⟩) n4 (CF w6)) n4 _ rfl ho8 _ x.r.b.length (x.r.b.map bv) rfl (Src.of_rd R7.b (by intro u hu; obtain ⟨y, -, rfl⟩ := List.mem_map.1 hu; rfl)) (by have := HLEN.out; unfold maxLen; omega) (by have := HLEN.out; omega) N7.size ?_
                     intro v9 w9 ho9 hg9 hat9
                     obtain ⟨A9, c9, hv9, n9, m9, r9, q9⟩ := ho9.rd
                     subst hv9)
        go_meet
        case rel => exact ⟨A9, c9, by rw [HLEN.out], by rw [HLEN.out, HMAP.out]; exact ho9, growW N7 hg9 (fun j hj => (ho8.lt j hj).1)⟩
      · have hzs : zs ≠ [] := fun h => by rw [h] at hzl; simp at hzl; omega
        have hBe2 : B = H ++ encL (partsL zs x.r.b) := by rw [HBE.out, if_neg hzs]
        obtain ⟨E, hE⟩ : ∃ E, E = encL (partsL zs x.r.b) := ⟨_, rfl⟩
        rw [← hE] at hBe2
        have hlen : B.length = n4 + E.length := by rw [hBe2, List.length_append, HN5.out]
        have hmap : B.map bv = H.map bv ++ E.map bv := by rw [hBe2, List.map_append]
        have HLEN := Lib.hid hlen
        have HMAP := Lib.hid hmap
        have HE := Lib.hid hE
        have hpc := cb_enc zs x.r.b hz6 (by omega)
        have hpl := partsL_len zs x.r.b
        have hP := ref26_parts x.ab x.r.b.length x.cb x.r.b A2 n2 c2 zs (BF w6) R7.b hA7 hxb (by omega) (by omega)
        unfold PartsPost at hP
        generalize partsL zs x.r.b = PS at hP hpc hpl HE
        have HPL := Lib.hid hpl
        have hz' : 0 < n2 := by omega
        have hz'' : decide (0 < n2) = true := decide_eq_true hz'
        clear hBe2 hlen hmap hzs hE hpl
        go_wp2_with fail
        refine hP.mono ?_
        rintro e w8 ⟨AP, cP, rfl, hS, L8⟩
        have N8 := stepW N7 L8
        go_wp2_with fail
        refine (ref14_Encode AP PS.length cP w8.heap.size PS w8 hS (Nat.le_refl _) (by omega) (by have := HPL.out; omega)).mono ?_
        rintro e w9 ⟨vE, rfl, hoE, L9⟩
        have N9 := stepW N8 L9
        rw [← HE.out] at hoE
        obtain ⟨AE, cE, rfl, -, -, hrE⟩ := hoE.form
        have ho9 := (ho8.belowW L8).belowW L9
        go_wp2_with (at_builtin
                     refine wpList_append_Own _ rfl (.tmp 49) (.tmp 54) 25 25 rfl w1.heap.size 5 i8 _ 1 1 Tryz.underlying25 (.inl Tryz.underlying25) hi8 hy0 hy1 hy2 rfl (by decide) (.slice (some ⟨w6.heap.size, 0, none⟩) n4 (CF w6)) n4 _ rfl ho9 _ E.length (E.map bv) rfl (Src.of_rd hrE (by intro u hu; obtain ⟨y, -, rfl⟩ := List.mem_map.1 hu; rfl)) (by have := HLEN.out; unfold maxLen; omega) (by have := HLEN.out; omega) N9.size ?_
                     intro v10 w10 ho10 hg10 hat10
                     obtain ⟨A10, c10, hv10, n10, m10, r10, q10⟩ := ho10.rd
                     subst hv10)
        go_meet
        case rel => exact ⟨A10, c10, by rw [HLEN.out], by rw [HLEN.out, HMAP.out]; exact ho10, growW N9 hg10 (fun j hj => (ho9.lt j hj).1)⟩
    case rest =>
      obtain ⟨A9, c9, rfl, ho9, N9⟩ := hcut
      obtain ⟨wx, rfl⟩ : ∃ wx, wx = wc := ⟨_, rfl⟩
      have N9w := stepW L1w N9
      have K9 := K2.belowW N9
      have R9 := R1.belowW N9
      obtain ⟨hc9, -, hr9⟩ := ho9.rdS
      clear K7 R7 a0 a1 a2 a3 a4 a5 a6 a7 a8 a9 hA7 ho8 N7
      have hk := cbx_new wx
      have L10 := allocW (Below.refl wx.heap.size wx) (.cells #[.int .i64 0, .int .i64 0, .pointer none, .slice none 0 0, .int .i64 0, .int .i64 0, .bool false, .bool false, .slice none 0 0, .pointer none, .bool false] 90)
      obtain ⟨g, hg⟩ : ∃ g, g = wx.heap.size := ⟨_, rfl⟩
      rw [← hg] at hk
      have hS0 : ∀ k, k = g → wx.heap.size ≤ k := fun k hk => by rw [hk, hg]; exact Nat.le_refl _
      go_upto_region 9 with (fail)
      rw [← hg]
      clear hg
      generalize wx.alloc (.cells #[.int .i64 0, .int .i64 0, .pointer none, .slice none 0 0, .int .i64 0, .int .i64 0, .bool false, .bool false, .slice none 0 0, .pointer none, .bool false] 90) = w10 at hk L10 ⊢
      have hr10 := (hr9.belowW (Nat.le_refl _) L10).more L10.size
      have hF := xfeed_row hk ⟨hr10, hr9.off hS0⟩ (by omega) hc9
      obtain ⟨q, hq⟩ : ∃ q, q = pFeed p0 B := ⟨_, rfl⟩
      rw [← hq] at hF
      have HQ := Lib.hid hq
      clear hq
      go_wp2_with fail
      refine hF.mono ?_
      rintro e w11 ⟨rfl, S11, k11, m11⟩
      have hi11 : PInv q.2 := by rw [HQ.out]; exact pFeed_inv _ _ p0_inv
      have L11 := moved_below m11 (stepW L10 (allocW (Below.refl w10.heap.size w10) _)) hS0
      have hS11 := moved_hs m11 (Nat.le_trans L10.size (allocW (Below.refl w10.heap.size w10) _).size) hS0
      have hT := xp_TakeA g S11 q.2 w11 k11 hi11
      unfold XTakeA at hT
      have hRs := rT_len q.2 hi11
      obtain ⟨R, hR⟩ : ∃ R, R = rT q.2 := ⟨_, rfl⟩
      obtain ⟨ER, hER⟩ : ∃ ER, ER = eT q.2 := ⟨_, rfl⟩
      rw [← hR, ← hER] at hT
      rw [← hR] at hRs
      simp only [rqv_cells] at hT
      have HR := Lib.hid hR
      have HER := Lib.hid hER
      clear hR hER hF
      go_wp2_with fail
      refine hT.mono ?_
      rintro e w12 ⟨AF, cF, AB, cB, rfl, hr12, -, S12, k12, m12⟩
      have L12 := moved_below m12 L11 hS11
      have Ba := Blk.new w12 27 #[sv R.m, .int .i64 R.t.form, sv R.t.host, sv R.t.path, sv R.t.query, .int .i64 R.v, .slice AF R.f.length cF, .slice AB R.b.length cB, .bool R.c, .bool R.e]
      have La := allocW (Below.refl w12.heap.size w12) (.cells #[sv R.m, .int .i64 R.t.form, sv R.t.host, sv R.t.path, sv R.t.query, .int .i64 R.v, .slice AF R.f.length cF, .slice AB R.b.length cB, .bool R.c, .bool R.e] 27)
      have L13 := stepW L12 La
      have R13 := R9.belowW L13
      have K13 := K9.belowW L13
      have hr13 := hr12.belowW La
      have hrB := (hr9.belowW (Nat.le_refl _) L13).more L13.size
      go_upto_region 11 with (fail)
      generalize w12.alloc (.cells #[sv R.m, .int .i64 R.t.form, sv R.t.host, sv R.t.path, sv R.t.query, .int .i64 R.v, .slice AF R.f.length cF, .slice AB R.b.length cB, .bool R.c, .bool R.e] 27) = w13 at Ba La L13 R13 K13 hr13 hrB ⊢
      have N13 := stepW N9w L13
      have hSm := ref16_Same ⟨R, AF, cF, AB, cB⟩ x w13 hr13 R13 hRs.1 hRs.2
      simp only [rqv_cells] at hSm
      obtain ⟨⟨b0, b1, b2, b3, b4, b5, b6, b7, b8, b9⟩, -⟩ := Ba.c10
      obtain ⟨⟨a0, a1, a2, a3, a4, a5, a6, a7, a8, a9⟩, -⟩ := K13.c10
      have hno : ¬ ((pFeed p0 B).1 = B.length ∧ (pFeed p0 B).2.phase = 3 ∧ rqOf (pFeed p0 B).2 = x.r) → buildL x.r zs = none := fun h => by rw [HBL.out, ← HB.out, if_neg (by unfold cbOk; rw [decide_eq_true_eq]; exact h)]
      rw [← HQ.out] at hno
      have HNO := Lib.hid hno
      clear hno
      by_cases h1 : q.1 = B.length
      case neg =>
        have h1' : ((q.1 : Int) != (B.length : Int)) = true := by simp; omega
        go_wp2
        apply bodyPost_ret (v := .tuple #[.slice none 0 0, .int .i64 1])
        · simp [results, Tryz.results12, go_sem]
        · rfl
        · rw [HNO.out (fun h => h1 h.1)]; exact ⟨none, 0, rfl, Rd.nil _ _ _ _, Nat.le_refl _, N13⟩
      have h1' : ((q.1 : Int) != (B.length : Int)) = false := by simp; omega
      have H1 := Lib.hid h1
      clear h1
      by_cases h2 : q.2.phase = 3
      case neg =>
        have h2' : (ER != 0) = true := by rw [HER.out, eT, if_neg h2]; rfl
        go_wp2
        apply bodyPost_ret (v := .tuple #[.slice none 0 0, .int .i64 1])
        · simp [results, Tryz.results12, go_sem]
        · rfl
        · rw [HNO.out (fun h => h2 h.2.1)]; exact ⟨none, 0, rfl, Rd.nil _ _ _ _, Nat.le_refl _, N13⟩
      have h2' : (ER != 0) = false := by rw [HER.out, eT, if_pos h2]; rfl
      have hRq : R = rqOf q.2 := by rw [HR.out, rT, if_pos h2]
      have HRQ := Lib.hid hRq
      clear hRq
      by_cases h3 : R = x.r
      case neg =>
        rw [decide_eq_false h3] at hSm
        go_wp2_with fail
        refine hSm.mono ?_
        rintro e w14 ⟨rfl, L14⟩
        go_wp2
        apply bodyPost_ret (v := .tuple #[.slice none 0 0, .int .i64 1])
        · simp [results, Tryz.results12, go_sem]
        · rfl
        · rw [HNO.out (fun h => h3 (HRQ.out.trans h.2.2))]; exact ⟨none, 0, rfl, Rd.nil _ _ _ _, Nat.le_refl _, stepW N13 L14⟩
      rw [decide_eq_true h3] at hSm
      have hyes : buildL x.r zs = some B := by
        rw [HBL.out, ← HB.out, if_pos]
        unfold cbOk
        rw [decide_eq_true_eq, ← HQ.out]
        exact ⟨H1.out, h2, HRQ.out.symm.trans h3⟩
      have hy2 := Lib.hid hyes
      clear h3 hyes h2
      go_wp2_with fail
      refine hSm.mono ?_
      rintro e w14 ⟨rfl, L14⟩
      go_wp2
      apply bodyPost_ret (v := .tuple #[.slice A9 B.length c9, .int .i64 0])
      · simp [results, Tryz.results12, go_sem]
      · rfl
      · rw [hy2.out]; exact ⟨A9, c9, rfl, (hrB.belowW (Nat.le_refl _) L14).more L14.size, hc9, stepW N13 L14⟩

end Go.Proofs.YtlambdccmfnloaaGreatDoor
namespace Go.Proofs.YtlambdccmfnloaaGreatDoor
open Go.RowKit
set_option maxRecDepth 100000
set_option maxHeartbeats 4000000

theorem info_int : (Tryz.prog.info? 3).map (fun i => (i.zero, i.size, i.bytes)) = some (some (.int .i64 0), 1, 8) := by kernel_rfl
theorem buildL_some {r : RQ} {zs : List Int} {B : Bs} (h : buildL r zs = some B) : (pFeed p0 B).1 = B.length ∧ (pFeed p0 B).2.phase = 3 ∧ rqOf (pFeed p0 B).2 = r := by
  unfold buildL at h
  split at h
  · generalize cbBytes r zs (printL r.t).1 = C at h
    cases hc : cbOk r C
    · rw [hc] at h; cases h
    · rw [hc, if_pos rfl] at h
      injection h with h
      subst h
      unfold cbOk at hc
      exact of_decide_eq_true hc
  · cases h
theorem buildL_len {r : RQ} {zs : List Int} {B : Bs} (h : buildL r zs = some B) (hm : r.m.length ≤ 4000) (hv : r.v ≤ 9223372036854775807) (hf : fsz r.f ≤ 4000) (hb : r.b.length ≤ 4000) (hz : zs.length ≤ 100) : B.length ≤ 20000 := by
  unfold buildL at h
  split at h
  · rename_i h0
    have hs : (printL r.t).1.length ≤ 200 := by
      rcases printL_cases r.t with ⟨s, hs, hl⟩ | hb
      · rw [hs]; exact hl
      · rw [hb]; exact Nat.zero_le _
    have h1 := cbBytes_len r zs (printL r.t).1 hm hs hv hf hb hz
    generalize cbBytes r zs (printL r.t).1 = C at h h1
    cases hc : cbOk r C
    · rw [hc] at h; cases h
    · rw [hc, if_pos rfl] at h
      injection h with h
      subst h
      exact h1
  · cases h
theorem law_Builds (x : RP) (A2 : Option Addr) (n2 c2 : Nat) (zs : List Int) (w : World) (h1 : RQR w x.r x.af x.ab) (hA2 : Rd w w.heap.size 1 A2 n2 (zs.map (Value.int .i64))) (hxb : x.r.b.length ≤ x.cb)
    (hl : ∀ f ∈ x.r.f, f.1.length ≤ 140737488355328 ∧ f.2.length ≤ 140737488355328) (hn : x.r.f.length ≤ maxLen) (hv0 : -9223372036854775808 ≤ x.r.v) (hv1 : x.r.v ≤ 9223372036854775807) (hm : ML w) (ht : Tab10 w) (htz : TZ w) :
    Calls Tryz.prog 3 #[rqV x.r x.af x.cf x.ab x.cb, .slice A2 n2 c2] w fun e w' => e = .returned (.bool true) ∧ Below w.heap.size w w' := by
  rw [rqv_cells]
  have hzl : zs.length = n2 := by simpa using hA2.1
  have LW := allocW (Below.refl w.heap.size w) (.cells #[sv x.r.m, .int .i64 x.r.t.form, sv x.r.t.host, sv x.r.t.path, sv x.r.t.query, .int .i64 x.r.v, .slice x.af x.r.f.length x.cf, .slice x.ab x.r.b.length x.cb, .bool x.r.c, .bool x.r.e] 27)
  have K1 := Blk.new w 27 #[sv x.r.m, .int .i64 x.r.t.form, sv x.r.t.host, sv x.r.t.path, sv x.r.t.query, .int .i64 x.r.v, .slice x.af x.r.f.length x.cf, .slice x.ab x.r.b.length x.cb, .bool x.r.c, .bool x.r.e]
  go_enter Tryz.func3, Tryz.ntmps3
  go_upto_region 1 with (fail)
  generalize w.alloc (.cells #[sv x.r.m, .int .i64 x.r.t.form, sv x.r.t.host, sv x.r.t.path, sv x.r.t.query, .int .i64 x.r.v, .slice x.af x.r.f.length x.cf, .slice x.ab x.r.b.length x.cb, .bool x.r.c, .bool x.r.e] 27) = W at LW K1 ⊢
  have hmW := hm.below LW (Nat.le_refl _)
  have htW := tab_below ht LW (Nat.le_refl _)
  have htzW := htz.below LW (Nat.le_refl _)
  have RW := h1.belowW LW
  have hAW := (hA2.below LW).more LW.size
  have hgW : w.heap.size < W.heap.size := K1.lt
  obtain ⟨⟨a0, a1, a2, a3, a4, a5, a6, a7, a8, a9⟩, -⟩ := K1.c10
  go_wp2_with fail
  refine (law_heavy x.af x.r.f.length x.cf x.r.f W RW.f hl hn).mono ?_
  rintro e w1 ⟨⟨bb, rfl, hbb⟩, L1⟩
  have L1w := stepW LW L1
  cases bb with
  | true =>
    go_wp2
    go_ret
    exact ⟨rfl, L1w⟩
  | false =>
    have hf := hbb rfl
    have K2 := K1.belowW L1
    obtain ⟨⟨a0, a1, a2, a3, a4, a5, a6, a7, a8, a9⟩, -⟩ := K2.c10
    by_cases e1 : 4000 < x.r.b.length
    case pos =>
      go_wp2
      go_ret
      exact ⟨rfl, L1w⟩
    by_cases e2 : 100 < n2
    case pos =>
      go_wp2
      go_ret
      exact ⟨rfl, L1w⟩
    by_cases e3 : 4000 < x.r.m.length
    case pos =>
      go_wp2
      go_ret
      exact ⟨rfl, L1w⟩
    by_cases e4 : 4000 < x.r.t.host.length
    case pos =>
      go_wp2
      go_ret
      exact ⟨rfl, L1w⟩
    by_cases e5 : 4000 < x.r.t.path.length
    case pos =>
      go_wp2
      go_ret
      exact ⟨rfl, L1w⟩
    by_cases e6 : 4000 < x.r.t.query.length
    case pos =>
      go_wp2
      go_ret
      exact ⟨rfl, L1w⟩
    obtain ⟨i8, hi8, hy0, hy1, hy2⟩ := info_parts info_u8
    obtain ⟨iI, hiI, hj0, hj1, hj2⟩ := info_parts info_int
    have I8 := Lib.hid (And.intro hi8 (And.intro hy0 (And.intro hy1 hy2)))
    have II := Lib.hid (And.intro hiI (And.intro hj0 (And.intro hj1 hj2)))
    clear hi8 hy0 hy1 hy2 hiI hj0 hj1 hj2
    have hA1 := (hAW.below L1).more L1.size
    clear hbb hl
    go_upto_if 55 with (fail)
    go_cut [] (fun wx => w1 = wx)
    case first =>
      go_wp2_with fail
      go_meet
      case rel => rfl
    obtain rfl := hcut
    clear a0 a1 a2 a3 a4 a5 a6 a7 a8 a9
    have Lq := allocW (Below.refl w1.heap.size w1) (.cells #[] 3)
    go_upto_region 4 with (at_builtin; refine wpList_append_Own _ rfl (.tmp 56) (.tmp 57) 28 28 rfl w1.heap.size 3 iI _ 1 8 Tryz.underlying28 (.inl Tryz.underlying28) II.out.1 II.out.2.1 II.out.2.2.1 II.out.2.2.2 rfl (by decide) (.slice (some ⟨w1.heap.size, 0, none⟩) 0 0) 0 [] rfl (Own.lit _ _ rfl _ (Nat.le_refl _) _ 1 0 [] rfl (by decide)) _ n2 (zs.map (Value.int .i64)) rfl (Src.of_rd (hA1.alloc (Nat.le_refl _) _) (by intro u hu; obtain ⟨y, -, rfl⟩ := List.mem_map.1 hu; rfl)) (by unfold maxLen; omega) (by omega) (by simp) ?_; intro v2 w2 ho2 hg2 hat2; obtain ⟨A5, c5, hv5, n5, m5, r5, q5⟩ := ho2.rd; subst hv5)
    have L2 : Below w1.heap.size w1 w2 := growW Lq hg2 (fun j hj => by cases hj; exact Nat.le_refl _)
    have ho2' : Own w2 w1.heap.size 3 1 (.slice A5 n2 c5) n2 (zs.map (Value.int .i64)) := by simpa using ho2
    obtain ⟨hc5, -, hr5⟩ := ho2'.rdS
    have L2w := stepW L1w L2
    have K3 := K2.belowW L2
    have R3 := (RW.belowW L1).belowW L2
    have hA3 := (hA1.belowW (Nat.le_refl _) L2).more L2.size
    have hm2 := (hmW.below L1 (Nat.le_refl _)).below L2 (Nat.le_refl _)
    have ht2 := tab_below (tab_below htW L1 (Nat.le_refl _)) L2 (Nat.le_refl _)
    have htz2 := (htzW.below L1 (Nat.le_refl _)).below L2 (Nat.le_refl _)
    obtain ⟨⟨a0, a1, a2, a3, a4, a5, a6, a7, a8, a9⟩, -⟩ := K3.c10
    clear ho2 hg2 hat2 q5 r5 m5 n5 Lq hA1 hAW htW htzW ht htz RW K2 h1 hA2
    have Bx := Blk.new w2 27 #[sv x.r.m, .int .i64 x.r.t.form, sv x.r.t.host, sv x.r.t.path, sv x.r.t.query, .int .i64 x.r.v, .slice x.af x.r.f.length x.cf, .slice x.ab x.r.b.length x.cb, .bool x.r.c, .bool x.r.e]
    have Lx := allocW (Below.refl w2.heap.size w2) (.cells #[sv x.r.m, .int .i64 x.r.t.form, sv x.r.t.host, sv x.r.t.path, sv x.r.t.query, .int .i64 x.r.v, .slice x.af x.r.f.length x.cf, .slice x.ab x.r.b.length x.cb, .bool x.r.c, .bool x.r.e] 27)
    go_upto_region 5 with (fail)
    generalize w2.alloc (.cells #[sv x.r.m, .int .i64 x.r.t.form, sv x.r.t.host, sv x.r.t.path, sv x.r.t.query, .int .i64 x.r.v, .slice x.af x.r.f.length x.cf, .slice x.ab x.r.b.length x.cb, .bool x.r.c, .bool x.r.e] 27) = w3 at Bx Lx ⊢
    have L3w := stepW L2w Lx
    have K4 := K3.belowW Lx
    have R4 := R3.belowW Lx
    have hr6 := (hr5.belowW (Nat.le_refl _) Lx).more Lx.size
    have hA4 := (hA3.belowW (Nat.le_refl _) Lx).more Lx.size
    have hm3 := hm2.below Lx (Nat.le_refl _)
    have ht3 := tab_below ht2 Lx (Nat.le_refl _)
    have htz3 := htz2.below Lx (Nat.le_refl _)
    have hx0 : w2.heap.size < w3.heap.size := Bx.lt
    have hg0 : w.heap.size < w2.heap.size := K3.lt
    obtain ⟨⟨a0, a1, a2, a3, a4, a5, a6, a7, a8, a9⟩, -⟩ := K4.c10
    have hfl := fsz_len x.r.f
    have K3' := K3
    have R3' := R3
    have hA3' := hA3
    have hr5' := hr5
    have hm2' := hm2
    have ht2' := ht2
    have htz2' := htz2
    clear hr5 hA3 hm2 ht2 htz2 R3 K3 ho2' hr6 hA4 hm3 ht3 htz3
    -- the fields, copied
    have Lf := allocW (Below.refl w3.heap.size w3) (.cells #[] 72)
    have of0 : OF (w3.alloc (.cells #[] 72)) w3.heap.size (.slice (some ⟨w3.heap.size, 0, none⟩) 0 0) [] := Own.lit w3 _ rfl w3.heap.size (Nat.le_refl _) 72 2 0 [] rfl (by decide)
    have bxf := (Bx.belowW Lf).c10
    obtain ⟨⟨x0, x1, x2, x3, x4, x5, x6, x7, x8, x9⟩, y0, y1, y2, y3, y4, y5, y6, y7, y8, y9⟩ := bxf
    have Rf := R4.belowW Lf
    obtain ⟨⟨z0, z1, z2, z3, z4, z5, z6, z7, z8, z9⟩, -⟩ := (K4.belowW Lf).c10
    go_upto_region 6 with (at_builtin; refine wp_appF rfl _ _ rfl w3.heap.size (.slice (some ⟨w3.heap.size, 0, none⟩) 0 0) [] rfl of0 (Below.refl _ _) x.af x.r.f.length x.cf _ rfl x.r.f rfl Rf.f (by rw [List.length_nil]; omega) Lf.size ?_; intro v6 w6 ho6 hx6; have L6 := Lf.trans (hx6.below of0 (Nat.le_refl _) Lf.size); have B6 := Bx.belowW L6; obtain ⟨⟨p0', p1, p2, p3, p4, p5, p6, p7, p8, p9⟩, q0, q1, q2, q3, q4, q5, q6, q7, q8, q9⟩ := B6.c10; obtain ⟨Af, cf, hvf, hcf, -, hrf⟩ := OF.form ho6; subst hvf)
    have L6w := stepW L3w L6
    have O6 : OF w6 w3.heap.size (.slice Af x.r.f.length cf) x.r.f := by simpa using ho6
    have D6 := B6.set_ 6 (.slice Af x.r.f.length cf)
    have D6' := D6.to (cs' := #[sv x.r.m, .int .i64 x.r.t.form, sv x.r.t.host, sv x.r.t.path, sv x.r.t.query, .int .i64 x.r.v, .slice Af x.r.f.length cf, .slice x.ab x.r.b.length x.cb, .bool x.r.c, .bool x.r.e]) (by simp)
    have F6 : Fr (fun k => k = w2.heap.size) w6 (w6.setCell ⟨w2.heap.size, 6, none⟩ (.slice Af x.r.f.length cf)) := Fr.setCell (S := fun k => k = w2.heap.size) (Fr.refl _ w6) (p := ⟨w2.heap.size, 6, none⟩) (.inl rfl) _
    have O7 : OF (w6.setCell ⟨w2.heap.size, 6, none⟩ (.slice Af x.r.f.length cf)) w3.heap.size (.slice Af x.r.f.length cf) x.r.f := Own.fr O6 F6 (fun k hk e => by have := (Own.lt O6 k hk).1; omega)
    have M6 : Below w2.heap.size w2 (w6.setCell ⟨w2.heap.size, 6, none⟩ (.slice Af x.r.f.length cf)) := (Lx.trans (L6.mono Lx.size)).setCell (p := ⟨w2.heap.size, 6, none⟩) (Nat.le_refl _) _
    clear D6 B6 O6 ho6 hx6 x0 x1 x2 x3 x4 x5 x6 x7 x8 x9 y0 y1 y2 y3 y4 y5 y6 y7 y8 y9 z0 z1 z2 z3 z4 z5 z6 z7 z8 z9 p0' p1 p2 p3 p4 p5 p6 p7 p8 p9 q0 q1 q2 q3 q4 q5 q6 q7 q8 q9 a0 a1 a2 a3 a4 a5 a6 a7 a8 a9 Rf Lf of0 F6
    generalize w6.setCell ⟨w2.heap.size, 6, none⟩ (.slice Af x.r.f.length cf) = w7 at D6' O7 M6 ⊢
    have K7 := K3'.belowW M6
    have R7 := R3'.belowW M6
    -- the body, copied
    have Lg := allocW (Below.refl w7.heap.size w7) (.cells #[] 5)
    have ob0 : OB (w7.alloc (.cells #[] 5)) w7.heap.size (.slice (some ⟨w7.heap.size, 0, none⟩) 0 0) [] := Own.lit w7 _ rfl w7.heap.size (Nat.le_refl _) 5 1 0 [] rfl (by decide)
    obtain ⟨⟨x0, x1, x2, x3, x4, x5, x6, x7, x8, x9⟩, y0, y1, y2, y3, y4, y5, y6, y7, y8, y9⟩ := (D6'.belowW Lg).c10
    have Rg := R7.belowW Lg
    obtain ⟨⟨z0, z1, z2, z3, z4, z5, z6, z7, z8, z9⟩, -⟩ := (K7.belowW Lg).c10
    obtain ⟨⟨a0, a1, a2, a3, a4, a5, a6, a7, a8, a9⟩, -⟩ := K7.c10
    go_upto_region 7 with (at_builtin; refine wp_appRd rfl _ _ rfl w7.heap.size (.slice (some ⟨w7.heap.size, 0, none⟩) 0 0) [] rfl ob0 (Below.refl _ _) x.ab x.r.b.length x.cb _ rfl x.r.b Rg.b (by rw [List.length_nil]; omega) Lg.size ?_; intro v8 w8 ho8 hx8; have L8 := Lg.trans (hx8.below ob0 (Nat.le_refl _) Lg.size); have B8 := D6'.belowW L8; obtain ⟨⟨p0', p1, p2, p3, p4, p5, p6, p7, p8, p9⟩, q0, q1, q2, q3, q4, q5, q6, q7, q8, q9⟩ := B8.c10; obtain ⟨Ab, cb, hvb, hcb, -, hrb⟩ := OB.form ho8; subst hvb)
    have O8 : OB w8 w7.heap.size (.slice Ab x.r.b.length cb) x.r.b := by simpa using ho8
    have D8 := (B8.set_ 7 (.slice Ab x.r.b.length cb)).to (cs' := #[sv x.r.m, .int .i64 x.r.t.form, sv x.r.t.host, sv x.r.t.path, sv x.r.t.query, .int .i64 x.r.v, .slice Af x.r.f.length cf, .slice Ab x.r.b.length cb, .bool x.r.c, .bool x.r.e]) (by simp)
    have F8 : Fr (fun k => k = w2.heap.size) w8 (w8.setCell ⟨w2.heap.size, 7, none⟩ (.slice Ab x.r.b.length cb)) := Fr.setCell (S := fun k => k = w2.heap.size) (Fr.refl _ w8) (p := ⟨w2.heap.size, 7, none⟩) (.inl rfl) _
    have h27 : w2.heap.size < w7.heap.size := D6'.lt
    have O9 := Own.fr O8 F8 (fun k hk e => by have := (Own.lt O8 k hk).1; omega)
    have O7b := Own.fr (OF.belowW O7 L8) F8 (fun k hk e => by have := (Own.lt O7 k hk).1; omega)
    have M8 : Below w2.heap.size w2 (w8.setCell ⟨w2.heap.size, 7, none⟩ (.slice Ab x.r.b.length cb)) := (M6.trans (L8.mono M6.size)).setCell (p := ⟨w2.heap.size, 7, none⟩) (Nat.le_refl _) _
    clear B8 O8 ho8 hx8 x0 x1 x2 x3 x4 x5 x6 x7 x8 x9 y0 y1 y2 y3 y4 y5 y6 y7 y8 y9 z0 z1 z2 z3 z4 z5 z6 z7 z8 z9 p0' p1 p2 p3 p4 p5 p6 p7 p8 p9 q0 q1 q2 q3 q4 q5 q6 q7 q8 q9 a0 a1 a2 a3 a4 a5 a6 a7 a8 a9 Rg Lg ob0 F8 O7 K7 R7 L8 L6 L6w
    generalize w8.setCell ⟨w2.heap.size, 7, none⟩ (.slice Ab x.r.b.length cb) = w9 at D8 O9 O7b M8 ⊢
    obtain ⟨hcf9, -, hrf9⟩ := Own.rdS O7b
    obtain ⟨hcb9, -, hrb9⟩ := Own.rdS O9
    have K9 := K3'.belowW M8
    have R9 := R3'.belowW M8
    have hA9 := (hA3'.belowW (Nat.le_refl _) M8).more M8.size
    have hr9 := (hr5'.belowW (Nat.le_refl _) M8).more M8.size
    have hm9 := hm2'.below M8 (Nat.le_refl _)
    have ht9 := tab_below ht2' M8 (Nat.le_refl _)
    have htz9 := htz2'.below M8 (Nat.le_refl _)
    have L9w := stepW L2w M8
    obtain ⟨⟨x0, x1, x2, x3, x4, x5, x6, x7, x8, x9⟩, -⟩ := D8.c10
    have g1 : x.r.m.length ≤ 4000 := by omega
    have g2 : x.r.t.host.length ≤ 4000 := by omega
    have g3 : x.r.t.path.length ≤ 4000 := by omega
    have g4 : x.r.t.query.length ≤ 4000 := by omega
    have g5 : x.r.b.length ≤ 4000 := by omega
    have g6 : n2 ≤ 100 := by omega
    have hB1 : Calls Tryz.prog 11 #[rqV x.r Af cf Ab cb, .slice A5 n2 c5] w9 (BuildPost w9 (buildL x.r zs)) := cli_Build ⟨x.r, Af, cf, Ab, cb⟩ A5 n2 c5 zs w9 ⟨hrf9, hrb9⟩ hr9 hcb9 g1 g2 g3 g4 hf g5 g6 hv0 hv1 hm9 ht9 htz9
    rw [rqv_cells] at hB1
    unfold BuildPost at hB1
    have hBl := fun B (h : buildL x.r zs = some B) => buildL_len h g1 hv1 hf g5 (by omega)
    have hBs := fun B (h : buildL x.r zs = some B) => buildL_some h
    have hB2 := fun (w' : World) (L : Below w9.heap.size w9 w') => ref26_Build x A2 n2 c2 zs w' (R9.belowW L) ((hA9.belowW (Nat.le_refl _) L).more L.size) hxb g1 g2 g3 g4 hf g5 g6 hv0 hv1
    simp only [rqv_cells] at hB2
    unfold BuildPost at hB2
    obtain ⟨o, ho⟩ : ∃ o, o = buildL x.r zs := ⟨_, rfl⟩
    rw [← ho] at hB1
    simp only [← ho] at hB2 hBl hBs
    have hol : (o.getD []).length ≤ 20000 := by
      cases o with
      | none => exact Nat.zero_le _
      | some B => exact hBl B rfl
    obtain ⟨BB, hBB⟩ : ∃ BB, BB = o.getD [] := ⟨_, rfl⟩
    obtain ⟨EE, hEE⟩ : ∃ EE : Int, EE = if o.isSome then 0 else 1 := ⟨_, rfl⟩
    rw [← hBB] at hol
    rw [← hBB, ← hEE] at hB1
    simp only [← hBB, ← hEE] at hB2
    have HBB := Lib.hid hBB
    have HEE := Lib.hid hEE
    clear ho hBB hEE hBl e1 e2 e3 e4 e5 e6
    go_wp2_with fail
    refine hB1.mono ?_
    rintro e w10 ⟨Aa, ca, rfl, hra, hca, L10⟩
    obtain ⟨⟨a0, a1, a2, a3, a4, a5, a6, a7, a8, a9⟩, -⟩ := (K9.belowW L10).c10
    go_wp2_with fail
    refine (hB2 w10 L10).mono ?_
    rintro e w11 ⟨Ab', cb', rfl, hrb', hcb', L11⟩
    have L11' := stepW L10 L11
    have hra2 := (hra.belowW (Nat.le_refl _) L11).more L11.size
    obtain ⟨⟨b0, b1, b2, b3, b4, b5, b6, b7, b8, b9⟩, -⟩ := (D8.belowW L11').c10
    obtain ⟨⟨c0, c1, c2', c3, c4, c5', c6, c7, c8, c9⟩, -⟩ := (K9.belowW L11').c10
    clear a0 a1 a2 a3 a4 a5 a6 a7 a8 a9 x0 x1 x2 x3 x4 x5 x6 x7 x8 x9 hB1 hB2
    go_wp2_with fail
    refine (law_same26 Aa BB.length ca BB Ab' BB.length cb' BB w11 hra2 hrb' (by unfold maxLen; omega)).mono ?_
    rw [decide_eq_true rfl]
    rintro e w12 ⟨rfl, L12⟩
    have L12' := stepW L11' L12
    have hq := law_request26 ⟨x.r, Af, cf, Ab, cb⟩ x w12 ⟨(hrf9.belowW (Nat.le_refl _) L12').more L12'.size, (hrb9.belowW (Nat.le_refl _) L12').more L12'.size⟩ (R9.belowW L12') (show x.r.f.length ≤ 100000 by omega) (show x.r.b.length ≤ 100000 by omega)
    simp only [rqv_cells, decide_true] at hq
    obtain ⟨⟨b0, b1, b2, b3, b4, b5, b6, b7, b8, b9⟩, -⟩ := (D8.belowW L12').c10
    obtain ⟨⟨c0, c1, c2', c3, c4, c5', c6, c7, c8, c9⟩, -⟩ := (K9.belowW L12').c10
    go_wp2_with fail
    refine hq.mono ?_
    rintro e w13 ⟨rfl, L13⟩
    have L13' := stepW L12' L13
    go_wp2_with fail
    refine (law_ints26 A5 n2 c5 A2 n2 c2 zs w13 ((hr9.belowW (Nat.le_refl _) L13').more L13'.size) ((hA9.belowW (Nat.le_refl _) L13').more L13'.size) (by omega)).mono ?_
    rintro e w14 ⟨rfl, L14⟩
    have L14' := stepW L13' L14
    have L14w := stepW L9w L14'
    have hm14 := hm9.below L14' (Nat.le_refl _)
    have hra14 := (hra2.belowW (Nat.le_refl _) (stepW (stepW L12 L13) L14)).more (stepW (stepW L12 L13) L14).size
    have K14 := K9.belowW L14'
    have R14 := R9.belowW L14'
    clear b0 b1 b2 b3 b4 b5 b6 b7 b8 b9 c0 c1 c2' c3 c4 c5' c6 c7 c8 c9 hq
    cases o with
    | none =>
      have hE : EE = 1 := HEE.out
      have hE' : (EE != 0) = true := by rw [hE]; rfl
      clear hE
      go_wp2_with fail
      refine (law_known26 w14).mono ?_
      rintro e w15 ⟨rfl, L15⟩
      go_wp2
      go_ret
      exact ⟨rfl, stepW L14w L15⟩
    | some B =>
      have hE : EE = 0 := HEE.out
      have hE' : (EE != 0) = false := by rw [hE]; rfl
      obtain ⟨s1, s2, s3⟩ := hBs B rfl
      obtain rfl : BB = B := HBB.out
      obtain ⟨q, hq⟩ : ∃ q, q = pFeed p0 BB := ⟨_, rfl⟩
      rw [← hq] at s1 s2 s3
      have HQ := Lib.hid hq
      have S1 := Lib.hid s1
      have S2 := Lib.hid s2
      have S3 := Lib.hid s3
      clear hE hq s1 s2 s3 hBs
      go_wp2_with fail
      refine (prs_New w14).mono ?_
      rintro e w15 ⟨⟨g, S0, rfl, hk, hS0⟩, L15⟩
      have hr15 := (hra14.belowW (Nat.le_refl _) L15).more L15.size
      have hF := feed_row hk ⟨hr15, hra14.off hS0⟩ (by omega) hca (hm14.below L15 (Nat.le_refl _)) (hi_of hm14 hS0)
      rw [← HQ.out] at hF
      go_wp2_with fail
      refine hF.mono ?_
      rintro e w16 ⟨rfl, hi16, S16, k16, m16⟩
      have L16 := moved_below m16 (stepW L15 (allocW (Below.refl w15.heap.size w15) _)) hS0
      have hS16 := moved_hs m16 (Nat.le_trans L15.size (allocW (Below.refl w15.heap.size w15) _).size) hS0
      have hT := prs_TakeW g S16 q.2 w16 k16 hi16 S2.out
      unfold TakeW at hT
      rw [S3.out] at hT
      simp only [rqv_cells] at hT
      go_wp2_with fail
      refine hT.mono ?_
      rintro e w17 ⟨AF, cF, AB, cB, rfl, hr17, -, S17, k17, m17, -⟩
      have L17 := moved_below m17 L16 hS16
      have Ba := Blk.new w17 27 #[sv x.r.m, .int .i64 x.r.t.form, sv x.r.t.host, sv x.r.t.path, sv x.r.t.query, .int .i64 x.r.v, .slice AF x.r.f.length cF, .slice AB x.r.b.length cB, .bool x.r.c, .bool x.r.e]
      have La := allocW (Below.refl w17.heap.size w17) (.cells #[sv x.r.m, .int .i64 x.r.t.form, sv x.r.t.host, sv x.r.t.path, sv x.r.t.query, .int .i64 x.r.v, .slice AF x.r.f.length cF, .slice AB x.r.b.length cB, .bool x.r.c, .bool x.r.e] 27)
      have L18 := stepW L17 La
      have R18 := R14.belowW L18
      have K18 := K14.belowW L18
      have hr18 := hr17.belowW La
      go_upto_region 16 with (fail)
      generalize w17.alloc (.cells #[sv x.r.m, .int .i64 x.r.t.form, sv x.r.t.host, sv x.r.t.path, sv x.r.t.query, .int .i64 x.r.v, .slice AF x.r.f.length cF, .slice AB x.r.b.length cB, .bool x.r.c, .bool x.r.e] 27) = w18 at Ba La L18 R18 K18 hr18 ⊢
      have hq2 := law_request26 ⟨x.r, AF, cF, AB, cB⟩ x w18 hr18 R18 (show x.r.f.length ≤ 100000 by omega) (show x.r.b.length ≤ 100000 by omega)
      simp only [rqv_cells, decide_true] at hq2
      obtain ⟨⟨b0, b1, b2, b3, b4, b5, b6, b7, b8, b9⟩, -⟩ := Ba.c10
      obtain ⟨⟨a0, a1, a2, a3, a4, a5, a6, a7, a8, a9⟩, -⟩ := K18.c10
      have hqq : ((q.1 : Int) == (BB.length : Int)) = true := by have := S1.out; simp; omega
      go_wp2_with fail
      refine hq2.mono ?_
      rintro e w19 ⟨rfl, L19⟩
      go_wp2_with fail
      refine (law_known26 w19).mono ?_
      rintro e w20 ⟨rfl, L20⟩
      go_wp2
      go_ret
      exact ⟨rfl, stepW (stepW (stepW L14w L18) L19) L20⟩
end Go.Proofs.YtlambdccmfnloaaGreatDoor
