/- reply: number, data, ends, value. -/
import Derived.Test.YtlambdccmfnloaaGreatDoorReN
namespace Go.Proofs.YtlambdccmfnloaaGreatDoor
open Go.RowKit
set_option maxRecDepth 100000
set_option maxHeartbeats 4000000

/-- A reader, whatever its cells are just now. -/
structure RK (w : World) (g : Nat) (cs : Array Value) (P : Bs) (x : RPl) (F : List Fd) (D : Bs) (Q : List Int) : Prop where
  blk : Blk w g 116 cs
  rd : Rd w g 1 x.a P.length (P.map bv)
  of_ : OF w (g + 1) x.vf F
  ob : OB w (g + 1) x.vb D
  oi : OI w (g + 1) x.vp Q
theorem RM.rk {w : World} {g : Nat} {P : Bs} {hd : Bool} {x : RPl} {k : Nat} {s : RSt} (q : RM w g P hd x k s) : RK w g (rCells P hd x k s) P x s.f s.d s.q := ⟨q.blk, q.rd, q.of_, q.ob, q.oi⟩
namespace RK
variable {w w' : World} {g : Nat} {cs : Array Value} {P : Bs} {x : RPl} {F F' : List Fd} {D D' : Bs} {Q Q' : List Int}
theorem set_ (q : RK w g cs P x F D Q) (i : Nat) (u : Value) : RK (w.setCell ⟨g, i, none⟩ u) g (cs.setIfInBounds i u) P x F D Q := by
  have hfr : Fr (fun j => j = g) w (w.setCell ⟨g, i, none⟩ u) := Fr.setCell (S := fun j => j = g) (Fr.refl _ w) (p := ⟨g, i, none⟩) (.inl rfl) _
  exact ⟨q.blk.set_ i u, q.rd.keep fun p hp => hfr.cell (Nat.lt_trans hp q.blk.lt) (fun e => by omega), Own.fr q.of_ hfr fun j hj e => by have := (q.of_.lt j hj).1; omega,
    Own.fr q.ob hfr fun j hj e => by have := (q.ob.lt j hj).1; omega, Own.fr q.oi hfr fun j hj e => by have := (q.oi.lt j hj).1; omega⟩
theorem rdX (q : RK w g cs P x F D Q) {v v' : Value} (hx : Ext w w' v v') (hv : ∀ k, v.ownBlock = some k → g + 1 ≤ k) : Rd w' g 1 x.a P.length (P.map bv) :=
  q.rd.keep fun p hp => hx.fr.cell (Nat.lt_trans hp q.blk.lt) (fun e => by have := hv _ e; omega)
theorem extB (q : RK w g cs P x F D Q) {v' : Value} (hx : Ext w w' x.vb v') (ho : OB w' (g + 1) v' D') : RK w' g cs P { x with vb := v' } F D' Q :=
  ⟨q.blk.fr hx.fr fun e => by have := (q.ob.lt _ e).1; omega, q.rdX hx fun k hk => (q.ob.lt k hk).1, Own.fr q.of_ hx.fr (Own.two q.of_ q.ob (by decide)), ho, Own.fr q.oi hx.fr (Own.two q.oi q.ob (by decide))⟩
theorem extF (q : RK w g cs P x F D Q) {v' : Value} (hx : Ext w w' x.vf v') (ho : OF w' (g + 1) v' F') : RK w' g cs P { x with vf := v' } F' D Q :=
  ⟨q.blk.fr hx.fr fun e => by have := (q.of_.lt _ e).1; omega, q.rdX hx fun k hk => (q.of_.lt k hk).1, ho, Own.fr q.ob hx.fr (Own.two q.ob q.of_ (by decide)), Own.fr q.oi hx.fr (Own.two q.oi q.of_ (by decide))⟩
theorem extP (q : RK w g cs P x F D Q) {v' : Value} (hx : Ext w w' x.vp v') (ho : OI w' (g + 1) v' Q') : RK w' g cs P { x with vp := v' } F D Q' :=
  ⟨q.blk.fr hx.fr fun e => by have := (q.oi.lt _ e).1; omega, q.rdX hx fun k hk => (q.oi.lt k hk).1, Own.fr q.of_ hx.fr (Own.two q.of_ q.oi (by decide)), Own.fr q.ob hx.fr (Own.two q.ob q.oi (by decide)), ho⟩
theorem belowW (q : RK w g cs P x F D Q) (hb : Below w.heap.size w w') : RK w' g cs P x F D Q :=
  ⟨q.blk.belowW hb, q.rd.below (hb.mono (Nat.le_of_lt q.blk.lt)), Own.belowW q.of_ hb, Own.belowW q.ob hb, Own.belowW q.oi hb⟩
end RK
theorem RM.of {w : World} {g : Nat} {cs : Array Value} {P : Bs} {hd : Bool} {x : RPl} {k : Nat} {s : RSt} (q : RK w g cs P x s.f s.d s.q) (hcs : cs = rCells P hd x k s) (hc : P.length ≤ x.c) (ha : k + s.r.length = P.length) (hr : P.drop k = s.r) (hf : s.f.length ≤ 24) (hd' : s.d.length ≤ k) (hq : s.q.length ≤ k) (hs : 0 ≤ s.st ∧ s.st ≤ 599) : RM w g P hd x k s :=
  ⟨hcs ▸ q.blk, q.rd, hc, q.of_, q.ob, q.oi, ha, hr, hf, hd', hq, hs⟩
theorem numb_zero (most : Nat) (p : UInt8 → Bool) (r : Bs) : numbL most p (48 :: r) = .ok [48] r := by rw [numbL, if_pos rfl]
theorem numb_bad (most : Nat) (p : UInt8 → Bool) (c : UInt8) (r : Bs) (h : c ≠ 48) (h2 : spanL p most (c :: r) = []) : numbL most p (c :: r) = .bad := by rw [numbL, if_neg h]; exact if_pos h2
theorem numb_some (most : Nat) (p : UInt8 → Bool) (c : UInt8) (r : Bs) (h : c ≠ 48) (h2 : spanL p most (c :: r) ≠ []) : numbL most p (c :: r) = .ok (spanL p most (c :: r)) ((c :: r).drop (spanL p most (c :: r)).length) := by rw [numbL, if_neg h]; exact if_neg h2
theorem rd_number (f : FuncId) (p : UInt8 → Bool) (hf : IsP f p) (most : Nat) {w : World} {g : Nat} {P : Bs} {hd : Bool} {s : RSt} (q : RdT w g P hd s) (hP : P.length ≤ 1000000) (hm : most ≤ 1000000) :
    Calls Tryz.prog 105 #[.pointer (some ⟨g, 0, none⟩), .int .i64 (most : Int), .func (.func f) #[] #[]] w (RPost w g P hd (numbL most p s.r) (fun a => sv a) (fun _ r => { s with r := r })) := by
  have hwh := fun (w : World) (q : RdT w g P hd s) => rd_while f p hf most q hP hm
  obtain ⟨x, k, q⟩ := q
  have hnx := rd_next q hP
  rcases hr : s.r with _ | ⟨c, r⟩
  · rw [hr] at hnx
    go_enter Tryz.func105, Tryz.ntmps105
    go_wp2_with fail
    refine hnx.mono ?_
    rintro e w1 ⟨rfl, m, rfl⟩
    exact ⟨rfl, rpost_short rfl (below_drewN' (Below.refl _ _) _)⟩
  · rw [hr] at hnx
    by_cases hc : c = 48
    · subst hc
      have HE := Lib.hid (numb_zero most p r)
      go_enter Tryz.func105, Tryz.ntmps105
      go_wp2_with fail
      refine hnx.mono ?_
      rintro e w1 ⟨rfl, m, rfl⟩
      have q1 := q.drewN m
      have q2 := q1.step 48 r hr
      have hb : Below g w (w.drewN m) := below_drewN' (Below.refl _ _) m
      obtain ⟨W, hW⟩ : ∃ W, W = w.drewN m := ⟨_, rfl⟩
      rw [← hW] at q1 q2 hb ⊢
      obtain ⟨-, j1, -, -, -, -, -, -, -, i1, -⟩ := q1.c8
      have hk1 : (k : Int) ≤ 1000000 := by have := q1.at_; omega
      clear hW hr hnx
      go_wp2
      go_ret
      exact rpost_ok HE.out rfl (hb.setCell (Nat.le_refl _) _) ⟨x, k + 1, q2⟩
    · have hcb : ((c.toNat : Int) == 48) = false := by
        rw [Bool.eq_false_iff]
        intro h
        exact hc (UInt8.toNat_inj.1 (by have := beq_iff_eq.1 h; show c.toNat = 48; omega))
      have hcb2 : ¬ (c.toNat : Int) = 48 := by simpa using hcb
      have HR := Lib.hid hr
      have HN := Lib.hid (numb_bad most p c r hc)
      have HS := Lib.hid (numb_some most p c r hc)
      rw [← hr] at HN HS
      have hw2 := fun m => hwh (w.drewN m) ⟨x, k, q.drewN m⟩
      have hgl : g < w.heap.size := q.lt
      clear hc hr
      go_enter Tryz.func105, Tryz.ntmps105
      go_wp2_with fail
      refine hnx.mono ?_
      rintro e w1 ⟨rfl, m, rfl⟩
      go_wp2_with fail
      refine (hw2 m).mono ?_
      rintro e w2 ⟨rfl, q3, L3⟩
      have hb : Below g w w2 := (below_drewN' (Below.refl _ _) m).trans (fr_below (Nat.le_of_lt hgl) L3)
      generalize spanL p most s.r = a at *
      rcases a with _ | ⟨d, a⟩
      · have HE := Lib.hid (HN.out rfl)
        go_wp2_with fail
        refine (rd_fails 8 _).mono ?_
        rintro e w4 ⟨rfl, rfl⟩
        exact ⟨rfl, rpost_bad (by rw [← HR.out]; exact HE.out) hb⟩
      · have HE := Lib.hid (HS.out (by simp))
        go_wp2
        go_ret
        exact rpost_ok (by rw [← HR.out]; exact HE.out) rfl hb q3

theorem data_short (n : Nat) (r : Bs) (h : r.length < n) : dataL n r = .short := by rw [dataL, if_pos h]
theorem data_ok (n : Nat) (r : Bs) (h : ¬ r.length < n) : dataL n r = .ok (r.take n) (r.drop n) := by rw [dataL, if_neg h]
theorem rd_data (n : Nat) {w : World} {g : Nat} {P : Bs} {hd : Bool} {s : RSt} (q : RdT w g P hd s) (hP : P.length ≤ 1000000) (hn : n ≤ 4503599627370496) :
    Calls Tryz.prog 107 #[.pointer (some ⟨g, 0, none⟩), .int .i64 (n : Int)] w (RPost w g P hd (dataL n s.r) (fun _ => .tuple #[]) (fun d r => { s with r := r, d := s.d ++ d })) := by
  obtain ⟨x, k, q⟩ := q
  obtain ⟨j0, j1, -, -, -, j5, -, -, -, i1, -, -, -, i5, -⟩ := q.c8
  have hat := q.at_
  have hwr : IntKind.i64.wrap ((P.length : Int) - (k : Int)) = (P.length : Int) - (k : Int) := IntWalk.i64_in _ (by omega)
  by_cases hlt : s.r.length < n
  · have HE := Lib.hid (data_short n s.r hlt)
    have hgt : (P.length : Int) - (k : Int) < (n : Int) := by omega
    clear hlt
    go_enter Tryz.func107, Tryz.ntmps107
    go_wp2_with fail
    go_quiet (fail)
    go_wp2_with fail
    refine (rd_fails 12 _).mono ?_
    rintro e w1 ⟨rfl, rfl⟩
    exact ⟨rfl, rpost_short HE.out (below_drewN' (Below.refl _ _) _)⟩
  · have HE := Lib.hid (data_ok n s.r hlt)
    have hgt : ¬ (P.length : Int) - (k : Int) < (n : Int) := by omega
    have hgt2 : decide ((P.length : Int) - (k : Int) < (n : Int)) = false := by simpa using hgt
    obtain ⟨K, hK⟩ : ∃ K, K = k + n := ⟨_, rfl⟩
    have HK := Lib.hid hK
    have hkK : k ≤ K := by omega
    have hKP : K ≤ P.length := by omega
    have hws : IntKind.i64.wrap ((k : Int) + (n : Int)) = (K : Int) := by rw [IntWalk.i64_in _ (by omega)]; omega
    obtain ⟨A', c', hc', hsl, hrd⟩ := cut_rule x.c k K q.rd hkK hKP q.cap
    have hl : (P.drop k).take (K - k) = s.r.take n := by rw [q.rest, hK, Nat.add_sub_cancel_left]
    rw [hl] at hrd
    have hnd := q.nd
    have htl : (s.r.take n).length ≤ 1000000 := by rw [List.length_take]; omega
    clear hl hlt hK
    have qk := q.rk
    have ob := q.ob
    go_enter Tryz.func107, Tryz.ntmps107
    go_wp2_with fail
    go_quiet (fail)
    go_wp2_with fail
    obtain ⟨W, hW⟩ : ∃ W, W = w.drewN nq := ⟨_, rfl⟩
    have Q1 := q.drewN nq
    have hb1 : Below g w (w.drewN nq) := below_drewN' (Below.refl _ _) nq
    have hrd1 := hrd.drewN nq
    rw [← hW] at Q1 hb1 hrd1 ⊢
    clear hW j0 j1 i1 i5 j5 hrd hgt hgt2 hwr qk ob
    obtain ⟨j0, j1, -, -, -, j5, -, -, -, i1, -, -, -, i5, -⟩ := Q1.c8
    have qk := Q1.rk
    have ob := qk.ob
    have hg1 : g + 1 ≤ W.heap.size := Q1.lt
    have hK6 := fun (V : World) (u : Value) (h : V.cell? ⟨g, 0, none⟩ = some (.slice x.a P.length x.c) ∧ V.cell? ⟨g, 1, none⟩ = some (.int .i64 (k : Int))) => (⟨(World.cell?_setCell_other V _ _ u (by simp)).trans h.1, (World.cell?_setCell_other V _ _ u (by simp)).trans h.2⟩ : (V.setCell ⟨g, 5, none⟩ u).cell? ⟨g, 0, none⟩ = some (.slice x.a P.length x.c) ∧ (V.setCell ⟨g, 5, none⟩ u).cell? ⟨g, 1, none⟩ = some (.int .i64 (k : Int)))
    have S0 : W.cell? ⟨g, 0, none⟩ = some (.slice x.a P.length x.c) ∧ W.cell? ⟨g, 1, none⟩ = some (.int .i64 (k : Int)) := ⟨j0, j1⟩
    refine wp_region_noPanic ?_
    refine wp_region_held_drew (S := fun w' => w'.cell? ⟨g, 0, none⟩ = some (.slice x.a P.length x.c) ∧ w'.cell? ⟨g, 1, none⟩ = some (.int .i64 (k : Int))) (by kernel_rfl) S0 (fun hHeld => ?_)
    refine wpAnyH_take (i := 0) (v := ?_) rfl (by kernel_rfl) (by kernel_rfl) (by kernel_rfl) (fun _ _ _ h => h) (Or.inl ⟨by rfl, ?_⟩) (by assumption) ?_
    rotate_left
    · intro w9 hSw
      (try dsimp only at hSw)
      go_simp <;> with_reducible rfl
    (try simp only [Act.put, List.setIfInBounds_toArray])
    refine wpAnyH_take (i := 1) (v := ?_) rfl (by kernel_rfl) (by kernel_rfl) (by kernel_rfl) (fun _ _ _ h => h) (Or.inl ⟨by rfl, ?_⟩) (by assumption) ?_
    rotate_left
    · intro w9 hSw
      (try dsimp only at hSw)
      go_simp <;> with_reducible rfl
    (try simp only [Act.put])
    refine wpAnyH_take (i := 2) (v := ?_) rfl (by kernel_rfl) (by kernel_rfl) (by kernel_rfl) (fun _ _ _ h => h) (Or.inl ⟨by rfl, ?_⟩) (by assumption) ?_
    rotate_left
    · intro w9 hSw
      (try dsimp only at hSw)
      go_simp <;> with_reducible rfl
    (try simp only [Act.put])
    refine wpAnyH_take (i := 3) (v := ?_) rfl (by kernel_rfl) (by kernel_rfl) (by kernel_rfl) (fun _ _ _ h => h) (Or.inl ⟨by rfl, ?_⟩) (by assumption) ?_
    rotate_left
    · intro w9 hSw
      (try dsimp only at hSw)
      go_simp <;> with_reducible rfl
    (try simp only [Act.put])
    refine wpAnyH_take (i := 4) (v := ?_) rfl (by kernel_rfl) (by kernel_rfl) (by kernel_rfl) (fun _ _ _ h => h) (Or.inl ⟨by rfl, ?_⟩) (by assumption) ?_
    rotate_left
    · intro w9 hSw
      (try dsimp only at hSw)
      go_simp <;> with_reducible rfl
    (try simp only [Act.put])
    refine wpAnyH_take (i := 6) (v := ?_) rfl (by kernel_rfl) (by kernel_rfl) (by kernel_rfl) (fun _ _ _ h => h) (Or.inl ⟨by rfl, ?_⟩) (by assumption) ?_
    rotate_left
    · intro w9 hSw
      (try dsimp only at hSw)
      go_simp <;> with_reducible rfl
    (try simp only [Act.put])
    refine wpAnyH_take (i := 7) (v := ?_) rfl (by kernel_rfl) (by kernel_rfl) (by kernel_rfl) (fun _ _ _ h => h) (Or.inl ⟨by rfl, ?_⟩) (by assumption) ?_
    rotate_left
    · intro w9 hSw
      (try dsimp only at hSw)
      go_simp <;> with_reducible rfl
    (try simp only [Act.put])
    refine wpAnyH_take (i := 8) (v := ?_) rfl (by kernel_rfl) (by kernel_rfl) (by kernel_rfl) (fun _ _ _ h => h) (Or.inl ⟨by rfl, ?_⟩) (by assumption) ?_
    rotate_left
    · intro w9 hSw
      (try dsimp only at hSw)
      go_simp <;> with_reducible rfl
    (try simp only [Act.put])
    refine wpAnyH_take (i := 9) (v := ?_) rfl (by kernel_rfl) (by kernel_rfl) (by kernel_rfl) (fun _ _ _ h => h) (Or.inl ⟨by rfl, ?_⟩) (by assumption) ?_
    rotate_left
    · intro w9 hSw
      (try dsimp only at hSw)
      go_simp <;> with_reducible rfl
    (try simp only [Act.put])
    refine wpAnyH_take (i := 10) (v := ?_) rfl (by kernel_rfl) (by kernel_rfl) (by kernel_rfl) (fun _ _ _ h => h) (Or.inl ⟨by rfl, ?_⟩) (by assumption) ?_
    rotate_left
    · intro w9 hSw
      (try dsimp only at hSw)
      go_simp <;> with_reducible rfl
    (try simp only [Act.put])
    refine wpAnyH_take (i := 11) (v := ?_) rfl (by kernel_rfl) (by kernel_rfl) (by kernel_rfl) (fun _ _ _ h => h) (Or.inl ⟨by rfl, ?_⟩) (by assumption) ?_
    rotate_left
    · intro w9 hSw
      (try dsimp only at hSw)
      go_simp <;> with_reducible rfl
    (try simp only [Act.put])
    refine wpAnyH_take (i := 12) (v := ?_) rfl (by kernel_rfl) (by kernel_rfl) (by kernel_rfl) (fun _ _ _ h => h) (Or.inl ⟨by rfl, ?_⟩) (by assumption) ?_
    rotate_left
    · intro w9 hSw
      (try dsimp only at hSw)
      go_simp <;> with_reducible rfl
    (try simp only [Act.put])
    refine wpAnyH_take (i := 13) (v := ?_) rfl (by kernel_rfl) (by kernel_rfl) (by kernel_rfl) (fun _ _ _ h => h) (Or.inl ⟨by rfl, ?_⟩) (by assumption) ?_
    rotate_left
    · intro w9 hSw
      (try dsimp only at hSw)
      go_simp <;> with_reducible rfl
    (try simp only [Act.put])
    refine wpAnyH_take (i := 14) (v := ?_) rfl (by kernel_rfl) (by kernel_rfl) (by kernel_rfl) (fun _ _ _ h => h) (Or.inl ⟨by rfl, ?_⟩) (by assumption) ?_
    rotate_left
    · intro w9 hSw
      (try dsimp only at hSw)
      go_simp <;> with_reducible rfl
    (try simp only [Act.put])
    refine wpAnyH_take (i := 15) (v := ?_) rfl (by kernel_rfl) (by kernel_rfl) (by kernel_rfl) (fun _ _ _ h => h) (Or.inl ⟨by rfl, ?_⟩) (by assumption) ?_
    rotate_left
    · intro w9 hSw
      (try dsimp only at hSw)
      go_simp <;> with_reducible rfl
    (try simp only [Act.put])
    refine wpAnyH_take (i := 16) (v := ?_) rfl (by kernel_rfl) (by kernel_rfl) (by kernel_rfl) (fun _ _ _ h => h) (Or.inl ⟨by rfl, ?_⟩) (by assumption) ?_
    rotate_left
    · intro w9 hSw
      (try dsimp only at hSw)
      go_simp <;> with_reducible rfl
    (try simp only [Act.put])
    refine wpAnyH_take (i := 17) (v := ?_) rfl (by kernel_rfl) (by kernel_rfl) (by kernel_rfl) (fun _ _ _ h => h) (Or.inl ⟨by rfl, ?_⟩) (by assumption) ?_
    rotate_left
    · intro w9 hSw
      (try dsimp only at hSw)
      go_simp <;> with_reducible rfl
    (try simp only [Act.put])
    refine wpAnyH_take (i := 18) (v := ?_) rfl (by kernel_rfl) (by kernel_rfl) (by kernel_rfl) (fun _ _ _ h => h) (Or.inl ⟨by rfl, ?_⟩) (by assumption) ?_
    rotate_left
    · intro w9 hSw
      (try dsimp only at hSw)
      go_simp <;> with_reducible rfl
    (try simp only [Act.put])
    refine wpAnyH_take (i := 19) (v := ?_) rfl (by kernel_rfl) (by kernel_rfl) (by kernel_rfl) (fun _ _ _ h => h) (Or.inl ⟨by rfl, ?_⟩) (by assumption) ?_
    rotate_left
    · intro w9 hSw
      (try dsimp only at hSw)
      go_simp <;> with_reducible rfl
    (try simp only [Act.put])
    refine wpAnyH_take (i := 20) (v := ?_) rfl (by kernel_rfl) (by kernel_rfl) (by kernel_rfl) (fun _ _ _ h => h) (Or.inl ⟨by rfl, ?_⟩) (by assumption) ?_
    rotate_left
    · intro w9 hSw
      (try dsimp only at hSw)
      go_simp <;> with_reducible rfl
    (try simp only [Act.put])
    refine wpAnyH_ready (rs := [5]) (by kernel_rfl) (by simp) ?_
    refine AllReadyH.cons rfl (fun K9 hK9 => ?_) AllReadyH.nil
    go_simp
    refine hK9.out _ _ S0 (fun hHeld => ?_)
    clear hK9 K9
    (try simp only [Act.put, List.setIfInBounds_toArray, List.set_cons_zero, List.set_cons_succ])
    refine wpAnyH_ready (rs := [21]) (by kernel_rfl) (by simp) ?_
    refine AllReadyH.cons rfl (fun K9 hK9 => ?_) AllReadyH.nil
    refine step_appB rfl (.tmp 22) (.tmp 37) rfl (g + 1) x.vb s.d rfl ob ((Below.refl _ _).drew) A' (K - k) c' g rfl (s.r.take n) hrd1 (by omega) hg1 ?_
    intro v' w3 ho3 hx3
    obtain ⟨A3, c3, hv3, -, -, -⟩ := ho3.form
    subst hv3
    have qx := qk.extB hx3 ho3
    have hL3 := hx3.below ob (Nat.le_succ g) (Nat.le_of_lt Q1.lt)
    obtain ⟨a0, a1, -, -, -, a5, -, -, -, b1, -, -, -, b5, -⟩ := Blk.c8 qx.blk
    have S5 := And.intro a0 a1
    clear hx3 ho3
    refine hK9.out _ _ S5 (fun hHeld => ?_)
    clear hK9 K9
    (try simp only [Act.put, List.setIfInBounds_toArray])
    refine wpAnyH_take (i := 22) (v := ?_) rfl (by kernel_rfl) (by kernel_rfl) (by kernel_rfl) (fun _ _ _ h => h) (Or.inl ⟨by rfl, ?_⟩) (by assumption) ?_
    rotate_left
    · intro w9 hSw
      (try dsimp only at hSw)
      go_simp <;> with_reducible rfl
    (try simp only [Act.put])
    refine wpAnyH_take (i := 23) (v := ?_) rfl (by kernel_rfl) (by kernel_rfl) (by kernel_rfl) (fun _ _ _ h => h) (Or.inl ⟨by rfl, ?_⟩) (by assumption) ?_
    rotate_left
    · intro w9 hSw
      (try dsimp only at hSw)
      go_simp <;> with_reducible rfl
    (try simp only [Act.put])
    refine wpAnyH_take (i := 24) (v := ?_) rfl (by kernel_rfl) (by kernel_rfl) (by kernel_rfl) (fun _ _ _ h => h) (Or.inl ⟨by rfl, ?_⟩) (by assumption) ?_
    rotate_left
    · intro w9 hSw
      (try dsimp only at hSw)
      go_simp <;> with_reducible rfl
    (try simp only [Act.put])
    refine wpAnyH_ready (rs := [25]) (by kernel_rfl) (by simp) ?_
    refine AllReadyH.cons rfl (fun K9 hK9 => ?_) AllReadyH.nil
    go_simp
    refine hK9.out _ _ (hK6 _ _ S5) (fun hHeld => ?_)
    clear hK9 K9
    (try simp only [Act.put, List.setIfInBounds_toArray, List.set_cons_zero, List.set_cons_succ])
    refine wpAnyH_done (by kernel_rfl) ?_ _
    refine NoPanic.normal ?_
    have hm : min n s.r.length = n := by have := HK.out; omega
    have hlk : (s.r.take n).length = n := by rw [List.length_take, hm]
    have q3 := (qx.set_ 5 (.slice A3 (s.d ++ s.r.take n).length c3)).set_ 1 (.int .i64 (K : Int))
    have hb3 : Below g w ((w3.setCell ⟨g, 5, none⟩ (.slice A3 (s.d ++ s.r.take n).length c3)).setCell ⟨g, 1, none⟩ (.int .i64 (K : Int))) := ((hb1.trans hL3).setCell (Nat.le_refl _) _).setCell (Nat.le_refl _) _
    have qF : RM ((w3.setCell ⟨g, 5, none⟩ (.slice A3 (s.d ++ s.r.take n).length c3)).setCell ⟨g, 1, none⟩ (.int .i64 (K : Int))) g P hd { x with vb := .slice A3 (s.d ++ s.r.take n).length c3 } K { s with r := s.r.drop n, d := s.d ++ s.r.take n } := by
      refine RM.of q3 (by simp [rCells]) q.cap ?_ ?_ q.nf ?_ ?_ q.st0
      · have := HK.out; simp only [List.length_drop]; omega
      · simp only []; rw [HK.out, ← List.drop_drop, q.rest]
      · simp only [List.length_append, hlk]; have := HK.out; omega
      · have := q.nq; simp only []; omega
    have HN := Lib.hid (show s.d.length + n = (s.d ++ s.r.take n).length by rw [List.length_append, hlk])
    rw [show (s.d ++ s.r.take n).length = s.d.length + min n s.r.length by simp] at q3 hb3 qF
    clear hlk hm q3
    go_wp2
    go_end0
    exact rpost_ok HE.out rfl hb3 ⟨_, K, qF⟩
end Go.Proofs.YtlambdccmfnloaaGreatDoor
