/- usherlaw15: request, of two that are one; stood; known. -/
import Derived.Test.YtdajfajnkikmdaaGreatDoorLw15
import Derived.Test.YtdajfajnkikmdaaGreatDoorTEq
import Derived.Test.YtdajfajnkikmdaaGreatDoorRPar
import Derived.Laws.StructEq
import Derived.Lib.SlBytesConst
namespace Go.Proofs.YtdajfajnkikmdaaGreatDoor
open Go.RowKit
set_option maxRecDepth 100000
set_option maxHeartbeats 4000000

/-- A request in memory, as it can be read. -/
structure RQR (w : World) (r : RQ) (AF : Option Addr) (AB : Option Addr) : Prop where
  f : Rd w w.heap.size 2 AF r.f.length (fcells r.f)
  b : Rd w w.heap.size 1 AB r.b.length (r.b.map bv)
theorem RQR.belowW {w w' : World} {r : RQ} {AF AB : Option Addr} (h : RQR w r AF AB) (L : Below w.heap.size w w') : RQR w' r AF AB :=
  ⟨(h.f.belowW (Nat.le_refl _) L).more L.size, (h.b.belowW (Nat.le_refl _) L).more L.size⟩
def rqV (r : RQ) (AF : Option Addr) (cF : Nat) (AB : Option Addr) (cB : Nat) : Value := reqV r.m r.t r.v (.slice AF r.f.length cF) (.slice AB r.b.length cB) r.c r.e
theorem law_request15 (r : RQ) (A1 A2 B1 B2 : Option Addr) (c1 c2 d1 d2 : Nat) (w : World) (h1 : RQR w r A1 B1) (h2 : RQR w r A2 B2) (hf : r.f.length ≤ 100000) (hb : r.b.length ≤ 100000) :
    Calls Tryz.prog 28 #[rqV r A1 c1 B1 d1, rqV r A2 c2 B2 d2] w fun e w' => e = .returned (.bool true) ∧ Below w.heap.size w w' := by
  obtain ⟨m, t, v, F, B, c, e⟩ := r
  dsimp only at hf hb
  have tq := fun w : World => run_eql_tg t t w
  rw [show tgEq t t = true by simp [tgEq]] at tq
  have tg := fun (o : Operand) (o' : Operand) (xs ys : Array Value) (w : World) => run_guard_tg .eql o o' xs ys w
  unfold tgtV at tq
  unfold rqV
  dsimp only
  have L2 := allocW (allocW (Below.refl w.heap.size w) (.cells #[sv m, .int .i64 t.form, sv t.host, sv t.path, sv t.query, .int .i64 v, .slice A1 F.length c1, .slice B1 B.length d1, .bool c, .bool e] 31)) (.cells #[sv m, .int .i64 t.form, sv t.host, sv t.path, sv t.query, .int .i64 v, .slice A2 F.length c2, .slice B2 B.length d2, .bool c, .bool e] 31)
  have K1 := (Blk.new w 31 #[sv m, .int .i64 t.form, sv t.host, sv t.path, sv t.query, .int .i64 v, .slice A1 F.length c1, .slice B1 B.length d1, .bool c, .bool e]).alloc (.cells #[sv m, .int .i64 t.form, sv t.host, sv t.path, sv t.query, .int .i64 v, .slice A2 F.length c2, .slice B2 B.length d2, .bool c, .bool e] 31)
  have K2 := Blk.new' (w.alloc (.cells #[sv m, .int .i64 t.form, sv t.host, sv t.path, sv t.query, .int .i64 v, .slice A1 F.length c1, .slice B1 B.length d1, .bool c, .bool e] 31)) (w.heap.size + 1) (by simp) 31 #[sv m, .int .i64 t.form, sv t.host, sv t.path, sv t.query, .int .i64 v, .slice A2 F.length c2, .slice B2 B.length d2, .bool c, .bool e]
  have R1 := h1.belowW L2
  have R2 := h2.belowW L2
  have hF := law_fields15 A1 F.length c1 F A2 F.length c2 F _ R1.f R2.f (by unfold maxLen; omega)
  have hB := fun (W : World) (L : Below _ _ W) => law_same15 B1 B.length d1 B B2 B.length d2 B W ((R1.belowW L).b) ((R2.belowW L).b) (by unfold maxLen; omega)
  simp only [decide_true] at hF hB
  clear R1 R2 h1 h2
  cases c <;> cases e
  all_goals
    go_enter Tryz.func28, Tryz.ntmps28
    go_wp2_with fail
    refine hF.mono ?_
    rintro e w3 ⟨rfl, L3⟩
    have K3 := K1.belowW L3
    have K4 := K2.belowW L3
    obtain ⟨⟨a0, a1, a2, a3, a4, a5, a6, a7, a8, a9⟩, -⟩ := K3.c10
    obtain ⟨⟨b0, b1, b2, b3, b4, b5, b6, b7, b8, b9⟩, -⟩ := K4.c10
    go_wp2_with fail
    refine (hB _ L3).mono ?_
    rintro e w4 ⟨rfl, L4⟩
    have L5 := stepW (stepW L2 L3) L4
    obtain ⟨⟨a0, a1, a2, a3, a4, a5, a6, a7, a8, a9⟩, -⟩ := (K3.belowW L4).c10
    obtain ⟨⟨b0, b1, b2, b3, b4, b5, b6, b7, b8, b9⟩, -⟩ := (K4.belowW L4).c10
    go_wp2
    go_ret
    exact ⟨rfl, L5⟩
theorem PR.belowW {w w' : World} {g : Nat} {S : Nat → Prop} {p : PS} (h : PR w g S p) (L : Below w.heap.size w w') : PR w' g S p := by
  obtain ⟨x, e, k⟩ := h
  exact ⟨x, e, k.belowW L⟩
theorem PR.lt {w : World} {g : Nat} {S : Nat → Prop} {p : PS} (h : PR w g S p) {k : Nat} (hk : S k) : k < w.heap.size := by
  obtain ⟨x, rfl, q⟩ := h
  exact q.lt hk
theorem PR.fr {w w' : World} {g : Nat} {S T : Nat → Prop} {p : PS} (h : PR w g S p) (hf : Fr T w w') (hs : ∀ k, S k → ¬ T k) : PR w' g S p := by
  obtain ⟨x, rfl, q⟩ := h
  exact ⟨x, rfl, q.fr hf hs⟩
/-- Feed, by the parser's blocks. -/
def FeedP (w : World) (g : Nat) (S : Nat → Prop) (q : Nat × PS) (e : Ending) (w' : World) : Prop :=
  e = .returned (.int .i64 (q.1 : Int)) ∧ PInv q.2 ∧ ∃ S', PR w' g S' q.2 ∧ Moved S S' w w'
theorem prs_FeedP (g : Nat) (S : Nat → Prop) (p : PS) (A : Option Addr) (n cp : Nat) (ps : List Bs) (w : World) (q : PR w g S p) (hi : PInv p) (hA : RdP w S A n ps) (hn : ps.flatten.length ≤ 1000000) (hf : p.fed ≤ 900000000) (hm : ML w) (hh : Hi S) (hnl : n ≤ 1000000) :
    Calls Tryz.prog 17 #[.pointer (some ⟨g, 0, none⟩), .slice A n cp] w (FeedP w g S (pFeed p ps.flatten)) := by
  obtain ⟨x, rfl, q⟩ := q
  refine (prs_Feed g p x A n cp ps w q hi hA hn hf hm hh hnl).mono ?_
  rintro e w' ⟨rfl, hi', x', k', m'⟩
  exact ⟨rfl, hi', _, ⟨x', rfl, k'⟩, m'⟩
theorem RdO.lit {w : World} {S : Nat → Prop} (hS : ∀ k, S k → k < w.heap.size) (g : Nat) (hg : g = w.heap.size) (l : List Value) (t : TypeId) (fr : Nat × Nat) (n : Nat) (hn : l.length = n) : RdO (w.alloc (.cells l.toArray t fr)) S (some ⟨g, 0, none⟩) n l := by
  subst hg
  exact ⟨(Rd.newM w _ rfl l t fr n 1 (by omega)).more (by simp), fun _ a ha hs => by injection ha with ha; subst ha; exact Nat.lt_irrefl _ (hS _ hs)⟩
theorem RdP.two {w : World} {S : Nat → Prop} (hS : ∀ k, S k → k < w.heap.size) (g : Nat) (hg : g = w.heap.size) (t : TypeId) (p1 p2 : Bs) {A1 A2 : Option Addr} {n1 n2 c1 c2 : Nat} (e1 : p1.length = n1) (e2 : p2.length = n2) (h1 : RdO w S A1 n1 (p1.map bv)) (h2 : RdO w S A2 n2 (p2.map bv)) (l1 : n1 ≤ c1) (l2 : n2 ≤ c2) :
    RdP (w.alloc (.cells #[.slice A1 n1 c1, .slice A2 n2 c2] t)) S (some ⟨g, 0, none⟩) 2 [p1, p2] := by
  subst e1 e2
  refine ⟨[.slice A1 p1.length c1, .slice A2 p2.length c2], RdO.lit hS g hg _ t (0, 0) 2 rfl, rfl, fun i p hp => ?_⟩
  match i, hp with
  | 0, hp =>
    obtain rfl : p1 = p := by simpa using hp
    exact ⟨A1, c1, rfl, l1, h1.belowW (allocW (Below.refl _ _) _)⟩
  | 1, hp =>
    obtain rfl : p2 = p := by simpa using hp
    exact ⟨A2, c2, rfl, l2, h2.belowW (allocW (Below.refl _ _) _)⟩
theorem RdP.one {w : World} {S : Nat → Prop} (hS : ∀ k, S k → k < w.heap.size) (g : Nat) (hg : g = w.heap.size) (t : TypeId) (p1 : Bs) {A1 : Option Addr} {n1 c1 : Nat} (e1 : p1.length = n1) (h1 : RdO w S A1 n1 (p1.map bv)) (l1 : n1 ≤ c1) :
    RdP (w.alloc (.cells #[.slice A1 n1 c1] t)) S (some ⟨g, 0, none⟩) 1 [p1] := by
  subst e1
  refine ⟨[.slice A1 p1.length c1], RdO.lit hS g hg _ t (0, 0) 1 rfl, rfl, fun i p hp => ?_⟩
  match i, hp with
  | 0, hp =>
    obtain rfl : p1 = p := by simpa using hp
    exact ⟨A1, c1, rfl, l1, h1.belowW (allocW (Below.refl _ _) _)⟩
def kq1 : Bs := [71, 69, 84, 32, 47, 32, 72, 84, 84, 80, 47, 49, 46, 48, 13, 10]
def kq2 : Bs := [13, 10, 71, 69, 84]
theorem kq_feed : (pFeed p0 [kq1, kq2].flatten).1 = 18 ∧ (pFeed p0 [kq1, kq2].flatten).2.phase = 3 ∧ (pFeed p0 [kq1, kq2].flatten).2.head.how.close = true ∧ (pFeed p0 [kq1, kq2].flatten).2.head.minor = 0 ∧ (pFeed p0 [kq1, kq2].flatten).2.head.tgt.path = [47] := by decide +kernel
theorem law_known15 (w : World) (hm : ML w) :
    Calls Tryz.prog 20 #[] w fun e w' => e = .returned (.bool true) ∧ Below w.heap.size w w' := by
  have kc := fun (w : World) (C : Array Value) (n c g : Nat) (hg : g = w.heap.size) => Go.Joins.run_convert_bytes_const_at (P := Tryz.prog) w 22 5 C n c g hg Tryz.underlying22 Tryz.underlying5
  have HK := Lib.hid kq_feed
  go_enter Tryz.func20, Tryz.ntmps20
  go_wp2_with fail
  refine (prs_New w).mono ?_
  rintro e w1 ⟨⟨g, S, rfl, q, hS⟩, L1⟩
  have hlt : ∀ k, S k → k < w1.heap.size := fun k hk => q.lt hk
  have hm1 := hm.below L1 (Nat.le_refl _)
  have La := allocW (Below.refl w1.heap.size w1) (.cells #[.int .u8 71, .int .u8 69, .int .u8 84, .int .u8 32, .int .u8 47, .int .u8 32, .int .u8 72, .int .u8 84, .int .u8 84, .int .u8 80, .int .u8 47, .int .u8 49, .int .u8 46, .int .u8 48, .int .u8 13, .int .u8 10] 5 (16, 17))
  have Lb := allocW La (.cells #[.int .u8 13, .int .u8 10, .int .u8 71, .int .u8 69, .int .u8 84] 5 (5, 6))
  have Lc := allocW Lb (.cells #[.slice (some ⟨w1.heap.size, 0, none⟩) 16 16, .slice (some ⟨w1.heap.size + 1, 0, none⟩) 5 5] 22)
  have ra : RdO (w1.alloc (.cells #[.int .u8 71, .int .u8 69, .int .u8 84, .int .u8 32, .int .u8 47, .int .u8 32, .int .u8 72, .int .u8 84, .int .u8 84, .int .u8 80, .int .u8 47, .int .u8 49, .int .u8 46, .int .u8 48, .int .u8 13, .int .u8 10] 5 (16, 17))) S (some ⟨w1.heap.size, 0, none⟩) 16 (kq1.map bv) := RdO.lit hlt _ rfl (kq1.map bv) _ (16, 17) 16 rfl
  have hlta : ∀ k, S k → k < (w1.alloc (.cells #[.int .u8 71, .int .u8 69, .int .u8 84, .int .u8 32, .int .u8 47, .int .u8 32, .int .u8 72, .int .u8 84, .int .u8 84, .int .u8 80, .int .u8 47, .int .u8 49, .int .u8 46, .int .u8 48, .int .u8 13, .int .u8 10] 5 (16, 17))).heap.size := fun k hk => Nat.lt_of_lt_of_le (hlt k hk) La.size
  have rb : RdO ((w1.alloc (.cells #[.int .u8 71, .int .u8 69, .int .u8 84, .int .u8 32, .int .u8 47, .int .u8 32, .int .u8 72, .int .u8 84, .int .u8 84, .int .u8 80, .int .u8 47, .int .u8 49, .int .u8 46, .int .u8 48, .int .u8 13, .int .u8 10] 5 (16, 17))).alloc (.cells #[.int .u8 13, .int .u8 10, .int .u8 71, .int .u8 69, .int .u8 84] 5 (5, 6))) S (some ⟨w1.heap.size + 1, 0, none⟩) 5 (kq2.map bv) := RdO.lit hlta _ (by simp) (kq2.map bv) _ (5, 6) 5 rfl
  have rc := RdP.two (fun k hk => Nat.lt_of_lt_of_le (hlt k hk) Lb.size) (w1.heap.size + 1 + 1) (by simp) 22 kq1 kq2 rfl rfl (ra.belowW (allocW (Below.refl _ _) (.cells #[.int .u8 13, .int .u8 10, .int .u8 71, .int .u8 69, .int .u8 84] 5 (5, 6)))) rb (Nat.le_refl 16) (Nat.le_refl 5)
  have hC := prs_FeedP g S p0 _ 2 2 [kq1, kq2] _ (q.belowW Lc) p0_inv rc (by decide) (by decide) (hm1.below Lc (Nat.le_refl _)) (hi_of hm hS) (by decide)
  obtain ⟨Q, hQ⟩ : ∃ Q, Q = pFeed p0 [kq1, kq2].flatten := ⟨_, rfl⟩
  obtain ⟨f1, f2, f3, f4, f5⟩ := HK.out
  rw [← hQ] at hC f1 f2 f3 f4 f5
  unfold FeedP at hC
  rw [f1] at hC
  have F2 := Lib.hid f2
  have F3 := Lib.hid f3
  have F4 := Lib.hid f4
  have F5 := Lib.hid f5
  clear ra rb rc hlta hQ HK f1 f2 f3 f4 f5
  go_wp2_with fail
  refine hC.mono ?_
  rintro e w2 ⟨rfl, hI2, S2, q2, m2⟩
  have L2 := moved_below m2 (stepW L1 Lc) hS
  have hT := prs_Take_yes g S2 Q.2 w2 q2 F2.out hI2
  unfold TakePost reqV at hT
  rw [F3.out, F4.out, F5.out] at hT
  clear hC La Lb Lc
  go_wp2_with fail
  refine hT.mono ?_
  rintro e w3 ⟨AF, cF, AB, cB, rfl, hr1, hn1, hr2, hn2, S3, q3, m3, hS3⟩
  have hS2 : ∀ k, S2 k → w.heap.size ≤ k := moved_hs m2 (Nat.le_trans L1.size (Below.size (Below.trans (Below.refl _ _) (by first | exact (allocW (allocW (allocW (Below.refl _ _) _) _) _))))) hS
  have L3 := moved_below m3 L2 hS2
  clear hT hr1 hr2 hn1 hn2
  go_wp2_with fail
  have hP : Calls Tryz.prog 22 #[.pointer (some ⟨g, 0, none⟩)] _ fun e w' => e = .returned (.int .i64 0) ∧ _ = w' := prs_Phase g S3 p0 _ (q3.belowW (allocW (Below.refl w3.heap.size w3) (.cells #[sv Q.2.head.method, .int .i64 Q.2.head.tgt.form, sv Q.2.head.tgt.host, sv [47], sv Q.2.head.tgt.query, .int .i64 0, .slice AF Q.2.head.flds.length cF, .slice AB Q.2.body.length cB, .bool true, .bool Q.2.head.how.expect] 31)))
  refine hP.mono ?_
  rintro e w4 ⟨rfl, rfl⟩
  go_wp2
  go_ret
  exact ⟨rfl, allocW L3 _⟩
theorem law_stood (g gx : Nat) (S X : Nat → Prop) (p : PS) (w : World) (h : PR w g S p) (k : XQ w gx X p) (hi : PInv p) :
    Calls Tryz.prog 26 #[.pointer (some ⟨g, 0, none⟩), .pointer (some ⟨gx, 0, none⟩)] w fun e w' => e = .returned (.bool true) ∧ Below w.heap.size w w' := by
  obtain ⟨c0, c1, c4, -⟩ := k.top
  have hs : w.cell? ⟨gx, 1, none⟩ = some (.int .i64 p.status) := by
    by_cases h4 : p.phase = 4
    · exact c4 h4
    · obtain ⟨a, b⟩ := c1 (by have := hi.ph; omega)
      rw [a]; exact b
  have hgx : gx < w.heap.size := k.lt k.top.2.2.2
  have hX := fun (w' : World) (L : Below w.heap.size w w') => xp_Waits gx X p w' (k.belowW L)
  have hSS : ∀ w', Below w.heap.size w w' → w'.cell? ⟨gx, 0, none⟩ = some (.int .i64 (p.phase : Int)) ∧ w'.cell? ⟨gx, 1, none⟩ = some (.int .i64 p.status) := fun w' L => ⟨(L.cell (p := ⟨gx, 0, none⟩) hgx).trans c0, (L.cell (p := ⟨gx, 1, none⟩) hgx).trans hs⟩
  have Ld : Below w.heap.size w w.drew := (Below.refl _ _).drew
  have hD : PR w.drew g S p := h.belowW Ld
  have S0 := hSS _ Ld
  obtain ⟨pw, hpw⟩ : ∃ b, b = pWaits p := ⟨_, rfl⟩
  have hWt := prs_Waits g S p _ hD
  rw [← hpw] at hX hWt
  clear c1 c4 h k hs c0 hpw
  cases pw
  all_goals
    go_enter Tryz.func26, Tryz.ntmps26
    go_wp2_with fail
    go_region_held3 (fun w' => w'.cell? ⟨gx, 0, none⟩ = some (.int .i64 (p.phase : Int)) ∧ w'.cell? ⟨gx, 1, none⟩ = some (.int .i64 p.status))
      (first | with_reducible exact S0 | with_reducible exact S7 | go_keep)
      (first
        | (go_at_call 22
           refine (prs_Phase g S p _ hD).mono ?_
           rintro e w5 ⟨rfl, rfl⟩)
        | (go_at_call 23
           refine (prs_Status g S p _ hD).mono ?_
           rintro e w5 ⟨rfl, rfl⟩)
        | (go_at_call 21
           refine hWt.mono ?_
           rintro e w7 ⟨rfl, L7⟩
           have N7 : Below w.heap.size w w7 := Ld.trans (L7.mono Ld.size)
           have S7 := hSS w7 N7)
        | (go_at_call 48
           first
             | (refine (hX _ N7).mono ?_
                rintro e w8 ⟨rfl, rfl⟩)
             | (refine (hX _ Ld).mono ?_
                rintro e w8 ⟨rfl, rfl⟩)))
    all_goals go_wp2
    all_goals go_ret
    all_goals exact ⟨rfl, N7⟩
end Go.Proofs.YtdajfajnkikmdaaGreatDoor
