/- spec.Read. -/
import Derived.Test.YtbkakoboaophoaaGreatDoorSp1
import Derived.Test.YtbkakoboaophoaaGreatDoorSPl
import Derived.Deep.DeepCutAuto
import Derived.Deep.RegionHeld3
import Derived.IntWalk
namespace Go.Proofs.YtbkakoboaophoaaGreatDoor
open Go.RowKit
set_option maxRecDepth 100000
set_option maxHeartbeats 4000000

/-- What a reader of all requests made. -/
def ReadPost (w : World) (b : Bs) (e : Ending) (w' : World) : Prop :=
  ∃ (A : Option Addr) (c : Nat) (l : List RP), e = .returned (.tuple #[.slice A l.length c, rsV (rdL b).2]) ∧ l.map RP.r = (rdL b).1 ∧ l.length ≤ c ∧ l.length ≤ b.length ∧ RR w' A l.length l ∧ Below w.heap.size w w'
/-- The same, with names for all parts. -/
def ReadQ (w : World) (n : Nat) (R : List RQ) (U : Int) (P : Nat) (T : Int) (e : Ending) (w' : World) : Prop :=
  ∃ (A : Option Addr) (c : Nat) (l : List RP), e = .returned (.tuple #[.slice A l.length c, .agg #[.int .i64 U, .int .i64 (P : Int), .int .i64 T]]) ∧ l.map RP.r = R ∧ l.length ≤ c ∧ l.length ≤ n ∧ RR w' A l.length l ∧ Below w.heap.size w w'
theorem ReadPost.qI {w w' : World} {b : Bs} {n : Nat} {e : Ending} {R : List RQ} {u P : Nat} {T U : Int} (h : ReadPost w b e w') (hb : b.length = n) (hR : rdL b = (R, ⟨u, P, T⟩)) (hU : (u : Int) = U) : ReadQ w n R U P T e w' := by
  subst hb hU
  unfold ReadPost at h
  rw [hR] at h
  exact h
theorem ReadPost.q {w w' : World} {b : Bs} {n : Nat} {e : Ending} {R : List RQ} {U P : Nat} {T : Int} (h : ReadPost w b e w') (hb : b.length = n) (hR : rdL b = (R, ⟨U, P, T⟩)) : ReadQ w n R U P T e w' := h.qI hb hR rfl
/-- At the loop's head, but for the parser. -/
structure SpB (w : World) (b : Bs) (a : Nat) (v : Value) (l : List RP) (S : Nat → Prop) (wr : World) : Prop where
  i : RdI b a (l.map RP.r)
  la : l.length ≤ a
  q : OQ wr w.heap.size v l
  z : RZ wr (fun k => S k ∨ v.ownBlock = some k) l
  d : ∀ k, S k → v.ownBlock ≠ some k
  s : ∀ k, S k → w.heap.size ≤ k
  t : ∀ x ∈ l, RQO x.r x.af x.ab (fun k => k < w.heap.size)
  b : Below w.heap.size w wr
namespace SpB
variable {w wr wr' : World} {b : Bs} {a : Nat} {v v' : Value} {l : List RP} {S S' : Nat → Prop}
theorem start (w : World) (b : Bs) (S : Nat → Prop) (hs : ∀ k, S k → w.heap.size ≤ k) (h : Below w.heap.size w wr) : SpB w b 0 (.slice none 0 0) [] S wr :=
  ⟨RdI.start b, Nat.le_refl _, OQ.nil _ _, RZ.nil _ _, fun _ _ h => (by cases h), hs, fun _ h => (by cases h), h⟩
theorem belowW (h : SpB w b a v l S wr) (L : Below wr.heap.size wr wr') : SpB w b a v l S wr' := ⟨h.i, h.la, h.q.belowW L, h.z.belowW L, h.d, h.s, h.t, stepW h.b L⟩
theorem moved (h : SpB w b a v l S wr) (m : Moved S S' wr wr') : SpB w b a v l S' wr' := by
  have hlt : ∀ k, v.ownBlock = some k → k < wr.heap.size := fun k hk => Own.lt2 h.q hk
  exact ⟨h.i, h.la, Own.fr h.q m.fr fun k hk hs => h.d k hs hk, h.z.moved m, fun k hk hv => by
    rcases m.foot k hk with h3 | h3
    · exact h.d k h3 hv
    · have := hlt k hv; omega, moved_hs m h.b.size h.s, h.t, moved_below m h.b h.s⟩
/-- A request is put behind the row. -/
theorem app {x : RP} {a' : Nat} (h : SpB w b a v l S wr) (hx : RZ wr (fun k => S k ∨ v.ownBlock = some k) [x]) (hi : RdI b a' ((l ++ [x]).map RP.r)) (ha : a < a') (he : Ext wr wr' v v') (ho : OQ wr' w.heap.size v' (l ++ [x])) (hlt : ∀ k, S k → k < wr.heap.size) (ht : RQO x.r x.af x.ab (fun k => k < w.heap.size)) : SpB w b a' v' (l ++ [x]) S wr' :=
  ⟨hi, by have := h.la; rw [List.length_append, List.length_singleton]; omega, ho, (h.z.app hx).ext he, fun k hk hv => by
    rcases he.own k hv with h3 | h3
    · exact h.d k hk h3
    · have := hlt k hk; omega, h.s, fun y hy => by
    rcases List.mem_append.1 hy with h3 | h3
    · exact h.t y h3
    · obtain rfl : y = x := by simpa using h3
      exact ht, h.b.trans (he.below h.q (Nat.le_refl _) h.b.size)⟩
theorem rr (h : SpB w b a v l S wr) : ∃ A c, v = .slice A l.length c ∧ l.length ≤ c ∧ RR wr A l.length l := by
  obtain ⟨A, c, e, h1, -, h2⟩ := h.q.form
  exact ⟨A, c, e, h1, ⟨h2, h.z.rq, h.z.sz⟩⟩
end SpB
/-- The row of requests at the end, behind a store into a block of the reader's own. -/
theorem rr_fin {w8 E W : World} {v8 : Value} {L : List RP} {gr : Nat} (ho : OQ w8 W.heap.size v8 L) (hq : ∀ x ∈ L, RQR w8 x.r x.af x.ab) (ht : ∀ x ∈ L, RQO x.r x.af x.ab (fun k => k < W.heap.size)) (hs : ∀ x ∈ L, x.r.f.length ≤ 100000 ∧ x.r.b.length ≤ 100000) (hf : Fr (fun k => k = gr) w8 E) (hg : gr < W.heap.size) :
    ∃ A c, v8 = .slice A L.length c ∧ L.length ≤ c ∧ RR E A L.length L := by
  have ho2 : OQ E W.heap.size v8 L := Own.fr ho hf fun k hk e => by have := (Own.lt ho k hk).1; omega
  obtain ⟨A, c, e, h1, -, h2⟩ := ho2.form
  exact ⟨A, c, e, h1, ⟨h2, fun x hx => (hq x hx).fr ((ht x hx).mono fun k hk => by rw [hk]; exact hg) hf, hs⟩⟩
theorem Blk.set3 {w : World} {g : Nat} {T : TypeId} {a0 a1 a2 : Value} (h : Blk w g T #[a0, a1, a2]) (b0 b1 b2 : Value) : Blk (((w.setCell ⟨g, 0, none⟩ b0).setCell ⟨g, 1, none⟩ b1).setCell ⟨g, 2, none⟩ b2) g T #[b0, b1, b2] :=
  (((h.set_ 0 b0).set_ 1 b1).set_ 2 b2).to (by simp)
theorem fr_set3 {w0 w : World} {S : Nat → Prop} {g : Nat} (h : Fr S w0 w) (hg : S g) (b0 b1 b2 : Value) : Fr S w0 (((w.setCell ⟨g, 0, none⟩ b0).setCell ⟨g, 1, none⟩ b1).setCell ⟨g, 2, none⟩ b2) :=
  Fr.setCell (Fr.setCell (Fr.setCell h (.inl hg) _) (.inl hg) _) (.inl hg) _
/-- What may be read of a row of bytes: a part of it. -/
theorem RdO.part2 {w : World} {S : Nat → Prop} {A V : Option Addr} {n a m : Nat} {l : Bs} (h : RdO w S A n (l.map bv)) (hm : a + m ≤ n) (hV : 0 < m → V = A.map (·.add a)) : RdO w S V m (((l.drop a).take m).map bv) := by
  have h1 := (h.1.cutFrom (k := a) (by omega)).cutTo (k := m) (by omega)
  rw [Nat.mul_one, Nat.mul_one, ← List.map_drop, ← List.map_take] at h1
  rcases Nat.eq_zero_or_pos m with h0 | h0
  · exact ⟨⟨h1.1, fun h9 => absurd h9 (by omega)⟩, fun h9 => absurd h9 (by omega)⟩
  · rw [hV h0]
    refine ⟨h1, fun _ x hx => ?_⟩
    obtain ⟨b, o, rfl, -, -⟩ := h.1.2 (by omega)
    rw [Option.map_some, add_lit'] at hx
    injection hx with hx
    subst hx
    exact h.2 (by omega) ⟨b, o, none⟩ rfl
/-- One row is fed. -/
theorem feed_one {g : Nat} {S : Nat → Prop} {p : PS} {wr : World} {b : Bs} {A V : Option Addr} {n a d : Nat} (k : PR wr g S p) (hi : PInv p) (hA : RdO wr S A n (b.map bv)) (hbl : b.length = n) (ha : a ≤ n) (hn : n ≤ 100000) (hd : n - a ≤ d) (hV : 0 < n - a → V = A.map (·.add a)) (hm : ML wr) (hh : Hi S) (hf : p.fed ≤ 900000000) :
    Calls Tryz.prog 18 #[.pointer (some ⟨g, 0, none⟩), .slice (some ⟨wr.heap.size, 0, none⟩) 1 1] (wr.alloc (.cells #[.slice V (n - a) d] 22)) (FeedP (wr.alloc (.cells #[.slice V (n - a) d] 22)) g S (pFeed p (b.drop a))) := by
  have hlt : ∀ k, S k → k < wr.heap.size := fun _ hk => k.lt hk
  have La := allocW (Below.refl wr.heap.size wr) (.cells #[.slice V (n - a) d] 22)
  have r1 := hA.part2 (V := V) (a := a) (m := n - a) (by omega) hV
  rw [List.take_of_length_le (by rw [List.length_drop]; omega)] at r1
  have rp := RdP.one hlt wr.heap.size rfl 22 (b.drop a) (by rw [List.length_drop, hbl]) r1 hd
  have h9 := prs_FeedP g S p _ 1 1 _ _ (k.belowW La) hi rp (by simp only [List.flatten_cons, List.flatten_nil, List.append_nil, List.length_drop]; omega) hf (hm.below La (Nat.le_refl _)) hh (by decide)
  rw [List.flatten_cons, List.flatten_nil, List.append_nil] at h9
  exact h9
theorem rqv_cells (r : RQ) (AF AB : Option Addr) (cF cB : Nat) : rqV r AF cF AB cB = .agg #[sv r.m, .int .i64 r.t.form, sv r.t.host, sv r.t.path, sv r.t.query, .int .i64 r.v, .slice AF r.f.length cF, .slice AB r.b.length cB, .bool r.c, .bool r.e] := rfl
theorem spc_Read (A : Option Addr) (n c : Nat) (b : Bs) (w : World) (hA : Rd w w.heap.size 1 A n (b.map bv)) (hn : n ≤ 100000) (hc : n ≤ c) (hm : ML w) :
    Calls Tryz.prog 23 #[.slice A n c] w (ReadPost w b) := by
  have hbl : b.length = n := by simpa using hA.1
  obtain ⟨W, hW⟩ : ∃ W, W = w.alloc (.cells #[.int .i64 0, .int .i64 0, .int .i64 0] 42) := ⟨_, rfl⟩
  have LW := allocW (Below.refl w.heap.size w) (.cells #[.int .i64 0, .int .i64 0, .int .i64 0] 42)
  have BW := Blk.new w 42 #[.int .i64 0, .int .i64 0, .int .i64 0]
  rw [← hW] at LW BW
  go_enter Tryz.func23, Tryz.ntmps23
  go_wp2_with fail
  rw [← hW]
  clear hW
  refine (prs_New W).mono ?_
  rintro e w1 ⟨⟨g, S0, rfl, hk0, hS0⟩, L1⟩
  have hmW := hm.below LW (Nat.le_refl _)
  have hAW := (hA.belowW (Nat.le_refl _) LW).more LW.size
  have hgW : w.heap.size < W.heap.size := BW.lt
  have hR0 := SpB.start W b S0 hS0 L1
  clear hm hA
  go_wp2
  go_loopw [4, 6] (fun u a wr => ∃ (i : Nat) (l : List RP) (S : Nat → Prop) (v : Value), v = u ∧ a = .int .i64 i ∧ SpB W b i v l S wr ∧ PR wr g S p0) (fun _ a _ => n + 1 - (intOf a).toNat)
  case atStart => exact ⟨0, [], S0, _, rfl, rfl, hR0, hk0⟩
  case round =>
    obtain ⟨a, l, S, v, hv, rfl, H, hk⟩ := hrel
    subst hv
    have ha := H.i.1
    rw [hbl] at ha
    obtain ⟨q, hq⟩ : ∃ q, q = pFeed p0 (b.drop a) := ⟨_, rfl⟩
    have hqk : q.1 ≤ n - a := by rw [hq]; have := pFeed_le (b.drop a) p0; rw [List.length_drop] at this; omega
    have hF : ∀ (V : Option Addr) (d : Nat), n - a ≤ d → (0 < n - a → V = A.map (·.add a)) → Calls Tryz.prog 18 #[.pointer (some ⟨g, 0, none⟩), .slice (some ⟨wr.heap.size, 0, none⟩) 1 1] (wr.alloc (.cells #[.slice V (n - a) d] 22)) (FeedP (wr.alloc (.cells #[.slice V (n - a) d] 22)) g S q) := by
      intro V d hd hV
      rw [hq]
      exact feed_one hk p0_inv ⟨(hAW.below H.b).more H.b.size, hAW.off H.s⟩ hbl ha hn hd hV (hmW.below H.b (Nat.le_refl _)) (hi_of hmW H.s) (by decide)
    go_upto_region 4 with (fail)
    go_cut [7] (fun v7 wx => v7 = .int .i64 (q.1 : Int) ∧ PInv q.2 ∧ ∃ S', SpB W b a v l S' wx ∧ PR wx g S' q.2)
    case first =>
      have c1 : (a : Int) ≤ (c : Int) := by omega
      have hA0 := hAW.2
      clear hAW hq
      cases A with
      | none =>
        have hn0 : n = 0 := by rcases Nat.eq_zero_or_pos n with h9 | h9; exact h9; obtain ⟨_, _, e, _⟩ := hA0 h9; cases e
        have hC := hF none (c - a) (by omega) (fun _ => rfl)
        clear hA0 hF hn0
        go_wp2_with fail
        refine hC.mono ?_
        rintro e w5 ⟨rfl, hi5, S5, k5, m5⟩
        have H5 := (H.belowW (allocW (Below.refl wr.heap.size wr) _)).moved m5
        go_wp2_with fail
        go_meet
        case rel => exact ⟨rfl, hi5, S5, H5, k5⟩
      | some x =>
        clear hA0
        by_cases hac : c = a
        · have hC := hF (some x) 0 (by omega) (fun h9 => by omega)
          subst hac
          rw [show n - c = 0 by omega] at hC
          clear hF
          go_wp2_with fail
          refine hC.mono ?_
          rintro e w5 ⟨rfl, hi5, S5, k5, m5⟩
          have H5 := (H.belowW (allocW (Below.refl wr.heap.size wr) _)).moved m5
          go_wp2_with fail
          go_meet
          case rel => exact ⟨rfl, hi5, S5, H5, k5⟩
        · have hC := hF (some (x.add a)) (c - a) (by omega) (fun _ => rfl)
          clear hF
          go_wp2_with fail
          refine hC.mono ?_
          rintro e w5 ⟨rfl, hi5, S5, k5, m5⟩
          have H5 := (H.belowW (allocW (Below.refl wr.heap.size wr) _)).moved m5
          go_wp2_with fail
          go_meet
          case rel => exact ⟨rfl, hi5, S5, H5, k5⟩
    case rest =>
      obtain ⟨rfl, hi5, S5, H5, k5⟩ := hcut
      obtain ⟨wx, rfl⟩ : ∃ wx, wx = wc := ⟨_, rfl⟩
      have HQ := Lib.hid hq
      clear hF H hk hAW hq
      have Bx := BW.belowW H5.b
      by_cases h3 : q.2.phase = 3
      · have hT := prs_TakeW g S5 q.2 wx k5 hi5 h3
        unfold TakeW at hT
        obtain ⟨R, hR⟩ : ∃ R, R = rqOf q.2 := ⟨_, rfl⟩
        have hRc : q.2.head.how.close = R.c := by rw [hR]; rfl
        have hRs : R.f.length ≤ 100000 ∧ R.b.length ≤ 100000 := by
          have h9 := rT_len q.2 hi5
          rw [show rT q.2 = rqOf q.2 from if_pos h3, ← hR] at h9
          exact h9
        rw [← hR] at hT
        simp only [rqv_cells] at hT
        have HRR := Lib.hid hR
        clear hR
        go_wp2_with fail
        refine hT.mono ?_
        rintro e w6 ⟨AF, cF, AB, cB, rfl, hr6, ho6, S6, k6, m6, hs6⟩
        have H6 := H5.moved m6
        have hz6 : RQO R AF AB (fun k => S6 k ∨ v.ownBlock = some k) := hs6.or (ho6 _ fun k hk => ⟨Own.lt2 H5.q hk, fun h9 => H5.d k h9 hk⟩)
        have hlt6 : ∀ k, S6 k → k < w6.heap.size := fun k hk => k6.lt hk
        have Ba := Blk.new w6 33 #[sv R.m, .int .i64 R.t.form, sv R.t.host, sv R.t.path, sv R.t.query, .int .i64 R.v, .slice AF R.f.length cF, .slice AB R.b.length cB, .bool R.c, .bool R.e]
        have La := allocW (Below.refl w6.heap.size w6) (.cells #[sv R.m, .int .i64 R.t.form, sv R.t.host, sv R.t.path, sv R.t.query, .int .i64 R.v, .slice AF R.f.length cF, .slice AB R.b.length cB, .bool R.c, .bool R.e] 33)
        have H7 := H6.belowW La
        have k7 := k6.belowW La
        have hx7 : RZ _ (fun k => S6 k ∨ v.ownBlock = some k) [(⟨R, AF, cF, AB, cB⟩ : RP)] := RZ.one (hr6.belowW La) hz6 hRs
        have hlt7 : ∀ k, S6 k → k < (w6.alloc (.cells #[sv R.m, .int .i64 R.t.form, sv R.t.host, sv R.t.path, sv R.t.query, .int .i64 R.v, .slice AF R.f.length cF, .slice AB R.b.length cB, .bool R.c, .bool R.e] 33)).heap.size := fun k hk => k7.lt hk
        obtain ⟨w7, hw7⟩ : ∃ w7, w7 = w6.alloc (.cells #[sv R.m, .int .i64 R.t.form, sv R.t.host, sv R.t.path, sv R.t.query, .int .i64 R.v, .slice AF R.f.length cF, .slice AB R.b.length cB, .bool R.c, .bool R.e] 33) := ⟨_, rfl⟩
        rw [← hw7] at Ba H7 k7 hx7 hlt7 La
        obtain ⟨⟨b0, b1, b2, b3, b4, b5, b6, b7, b8, b9⟩, -⟩ := Ba.c10
        have hll : l.length ≤ n := Nat.le_trans H5.la ha
        have htx : RQO R AF AB (fun k => k < W.heap.size) := ho6 _ fun k hk => ⟨Nat.lt_of_lt_of_le hk H5.b.size, fun h9 => by have := H5.s k h9; omega⟩
        have hnv : ¬ v.ownBlock = some w6.heap.size := fun h9 => by have := Own.lt2 H6.q h9; omega
        clear hT H5 H6 k5 m6 hs6 ho6 hr6 hlt6 hz6 k6
        go_upto_region 6 with (fail)
        rw [← hw7]
        clear hw7
        have wq : IntKind.i64.wrap ((a : Int) + (q.1 : Int)) = (a : Int) + (q.1 : Int) := IntWalk.i64_in _ (by omega)
        go_upto_region 10 with (first
          | (at_builtin
             refine wp_appRq rfl _ _ rfl W.heap.size v l rfl H7.q (allocW (Below.refl w7.heap.size w7) _) (some ⟨w7.heap.size, 0, none⟩) 1 1 _ rfl [⟨R, AF, cF, AB, cB⟩] rfl (Rd.new w7 _ rfl _ _ 1 10 rfl) (by rw [List.length_singleton]; omega) H7.b.size ?_
             intro v8 w8 ho8 he8))
        have B8 := Ba.fr he8.fr hnv
        have L8 := H7.b.trans (he8.below H7.q (Nat.le_refl _) H7.b.size)
        have G8 := BW.belowW L8
        obtain ⟨g0, g1, g2, f0, f1, f2⟩ := G8.c3
        clear b0 b1 b2 b3 b4 b5 b6 b7 b8 b9
        cases hcl : R.c
        · rw [hcl] at hRc B8
          obtain ⟨⟨d0, d1, d2, d3, d4, d5, d6, d7, d8, d9⟩, -⟩ := B8.c10
          have hon := H7.i.on (by rw [← HQ.out]; exact h3) (by rw [← HQ.out]; exact hRc)
          rw [← HQ.out, ← HRR.out] at hon
          go_wp2
          go_roundw
          case rel => exact ⟨a + q.1, _, S6, _, rfl, by go_num, H7.app hx7 (by simpa using hon.1) (by omega) he8 ho8 hlt7 htx, k7.fr he8.fr (fun k h1 h2 => H7.d k h1 h2)⟩
          case measure => simp [intOf]; omega
        · rw [hcl] at hRc B8
          obtain ⟨⟨d0, d1, d2, d3, d4, d5, d6, d7, d8, d9⟩, -⟩ := B8.c10
          have hcs := H7.i.close (by rw [← HQ.out]; exact h3) (by rw [← HQ.out]; exact hRc)
          rw [← HQ.out, ← HRR.out] at hcs
          go_wp2
          have T8 := G8.set3 (.int .i64 ((a : Int) + (q.1 : Int))) (.int .i64 0) (.int .i64 0)
          have F8 := fr_set3 (S := fun k => k = w.heap.size) (Fr.refl _ w8) rfl (.int .i64 ((a : Int) + (q.1 : Int))) (.int .i64 0) (.int .i64 0)
          generalize (((w8.setCell ⟨w.heap.size, 0, none⟩ (.int .i64 ((a : Int) + (q.1 : Int)))).setCell ⟨w.heap.size, 1, none⟩ (.int .i64 0)).setCell ⟨w.heap.size, 2, none⟩ (.int .i64 0)) = E at T8 F8 ⊢
          obtain ⟨t0, t1, t2, -, -, -⟩ := T8.c3
          have H8 := (H7.z.app hx7).ext he8
          have h7 := H7.la
          obtain ⟨Ar, cr, rfl, hcr, hrr⟩ := rr_fin ho8 H8.rq (fun y hy => by
            rcases List.mem_append.1 hy with h9 | h9
            · exact H7.t y h9
            · obtain rfl : y = _ := by simpa using h9
              exact htx) H8.sz F8 hgW
          refine bodyPost_ret (v := .tuple #[.slice Ar (l ++ [(⟨R, AF, cF, AB, cB⟩ : RP)]).length cr, rsV (rdL b).2]) (by rw [hcs]; simp [results, Tryz.results23, go_sem, t0, t1, t2]) rfl ⟨Ar, cr, _, rfl, by rw [hcs]; simp, hcr, ?_, hrr, (stepW LW L8).trans ((F8.toBelow (B := w.heap.size) (by have := L8.size; omega) (fun k hk => by omega)))⟩
          have h9 := pFeed_pos (b.drop a) (by rw [← HQ.out]; omega)
          rw [← HQ.out] at h9
          rw [List.length_append, List.length_singleton, hbl]
          omega
      · have hT : Calls Tryz.prog 19 #[.pointer (some ⟨g, 0, none⟩)] wx fun e w' => e = .returned (.tuple #[.agg #[.string ⟨#[]⟩, .int .i64 0, .string ⟨#[]⟩, .string ⟨#[]⟩, .string ⟨#[]⟩, .int .i64 0, .slice none 0 0, .slice none 0 0, .bool false, .bool false], .int .i64 4]) ∧ Below wx.heap.size wx w' := prs_Take_not g S5 q.2 wx k5 h3
        have hno := H5.i.no (by rw [← HQ.out]; exact h3)
        rw [← HQ.out] at hno
        go_wp2_with fail
        refine hT.mono ?_
        rintro e w6 ⟨rfl, L6⟩
        have La := allocW L6 (.cells #[.string ⟨#[]⟩, .int .i64 0, .string ⟨#[]⟩, .string ⟨#[]⟩, .string ⟨#[]⟩, .int .i64 0, .slice none 0 0, .slice none 0 0, .bool false, .bool false] 33)
        have H7 := H5.belowW La
        have k7 := k5.belowW La
        have hP := prs_Phase g S5 q.2 _ k7
        have hS := prs_Status g S5 q.2 _ k7
        have G8 := BW.belowW H7.b
        obtain ⟨g0, g1, g2, f0, f1, f2⟩ := G8.c3
        clear hT Bx
        go_wp2_with fail
        refine hP.mono ?_
        rintro e w7 ⟨rfl, rfl⟩
        go_wp2_with fail
        refine hS.mono ?_
        rintro e w7 ⟨rfl, rfl⟩
        go_wp2
        generalize w6.alloc (.cells #[.string ⟨#[]⟩, .int .i64 0, .string ⟨#[]⟩, .string ⟨#[]⟩, .string ⟨#[]⟩, .int .i64 0, .slice none 0 0, .slice none 0 0, .bool false, .bool false] 33) = w8 at La H7 k7 hP hS G8 g0 g1 g2 f0 f1 f2 ⊢
        have T8 := G8.set3 (.int .i64 (a : Int)) (.int .i64 (q.2.phase : Int)) (.int .i64 q.2.status)
        have F8 := fr_set3 (S := fun k => k = w.heap.size) (Fr.refl _ w8) rfl (.int .i64 (a : Int)) (.int .i64 (q.2.phase : Int)) (.int .i64 q.2.status)
        generalize (((w8.setCell ⟨w.heap.size, 0, none⟩ (.int .i64 (a : Int))).setCell ⟨w.heap.size, 1, none⟩ (.int .i64 (q.2.phase : Int))).setCell ⟨w.heap.size, 2, none⟩ (.int .i64 q.2.status)) = E at T8 F8 ⊢
        obtain ⟨t0, t1, t2, -, -, -⟩ := T8.c3
        obtain ⟨Ar, cr, rfl, hcr, hrr⟩ := rr_fin H7.q H7.z.rq H7.t H7.z.sz F8 hgW
        refine bodyPost_ret (v := .tuple #[.slice Ar l.length cr, rsV (rdL b).2]) (by rw [hno]; simp [results, Tryz.results23, go_sem, t0, t1, t2]) rfl ⟨Ar, cr, _, rfl, by rw [hno], hcr, by have := H7.la; omega, hrr, (stepW LW H7.b).trans ((F8.toBelow (B := w.heap.size) (by have := H7.b.size; omega) (fun k hk => by omega)))⟩
end Go.Proofs.YtbkakoboaophoaaGreatDoor
