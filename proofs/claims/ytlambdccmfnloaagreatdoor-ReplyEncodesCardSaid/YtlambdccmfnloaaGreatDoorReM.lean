/- reply: a reader in memory; next, text, while. -/
import Derived.Test.YtlambdccmfnloaaGreatDoorReP
import Derived.Test.YtlambdccmfnloaaGreatDoorFPl
import Derived.Deep.QuietTactic
import Derived.BigQuiet
import Derived.Deep.RegionHeld3
import Derived.Deep.RegionWith
import Derived.RegionDies
namespace Go.Proofs.YtlambdccmfnloaaGreatDoor
open Go.RowKit
set_option maxRecDepth 100000
set_option maxHeartbeats 4000000

/- shelf: Tryz.lays161 Tryz.strings_HasPrefix Tryz.bytes_HasPrefix_all -/
/-- Rows of numbers. -/
abbrev iv (i : Int) : Value := .int .i64 i
def OI (w : World) (base : Nat) (v : Value) (l : List Int) : Prop := Own w base 3 1 v l.length (l.map iv)
theorem OI.nil (w : World) (base : Nat) : OI w base (.slice none 0 0) [] := Own.nil w base _ 1
theorem Own.two {w : World} {base base' e e' s s' n n' : Nat} {v v' : Value} {xs ys : List Value} (h : Own w base e s v n xs) (h' : Own w base' e' s' v' n' ys) (hne : e ≠ e') : ∀ k, v.ownBlock = some k → v'.ownBlock ≠ some k := by
  intro k hk hk'
  rcases h.2 with ⟨rfl, -⟩ | ⟨g, cap, cur, fr, rfl, -, hg, -⟩
  · cases hk
  · rcases h'.2 with ⟨rfl, -⟩ | ⟨g', cap', cur', fr', rfl, -, hg', -⟩
    · cases hk'
    · simp [Value.ownBlock] at hk hk'
      subst hk; subst hk'
      rw [hg] at hg'
      simp at hg'
      exact hne hg'.2.1

theorem byteB' (p : UInt8 → Bool) (h : ∀ x : Fin 256, p (UInt8.ofNat x.val) = true) (b : UInt8) : p b = true := by
  have := h ⟨b.toNat, b.toNat_lt⟩
  simpa using this
/-- What is left of a response's bytes, and what was read. -/
structure RSt where
  r : Bs
  st : Int
  f : List Fd
  d : Bs
  q : List Int
  fin : Bool
structure RPl where
  a : Option Addr
  c : Nat
  vf : Value
  vb : Value
  vp : Value
def rCells (P : Bs) (hd : Bool) (x : RPl) (k : Nat) (s : RSt) : Array Value := #[.slice x.a P.length x.c, .int .i64 (k : Int), .bool hd, .int .i64 s.st, x.vf, x.vb, x.vp, .bool s.fin]
/-- A reader at block g; k bytes are read. -/
structure RM (w : World) (g : Nat) (P : Bs) (hd : Bool) (x : RPl) (k : Nat) (s : RSt) : Prop where
  blk : Blk w g 116 (rCells P hd x k s)
  rd : Rd w g 1 x.a P.length (P.map bv)
  cap : P.length ≤ x.c
  of_ : OF w (g + 1) x.vf s.f
  ob : OB w (g + 1) x.vb s.d
  oi : OI w (g + 1) x.vp s.q
  at_ : k + s.r.length = P.length
  rest : P.drop k = s.r
  nf : s.f.length ≤ 24
  nd : s.d.length ≤ k
  nq : s.q.length ≤ k
  st0 : 0 ≤ s.st ∧ s.st ≤ 599
def RdT (w : World) (g : Nat) (P : Bs) (hd : Bool) (s : RSt) : Prop := ∃ x k, RM w g P hd x k s
/-- A failure that is on its way. -/
abbrev failV (c : Int) : List PanicEntry := [{ v := .iface 113 (.agg #[.int .i64 c]), recovered := false }]
/-- What comes of a step of the reader. -/
def RPost {α : Type} (w : World) (g : Nat) (P : Bs) (hd : Bool) (x : R3 α) (val : α → Value) (next : α → Bs → RSt) (e : Ending) (w' : World) : Prop :=
  Below g w w' ∧ match x with
    | .short => e = .panicked (failV 12)
    | .bad => e = .panicked (failV 8)
    | .ok a r => e = .returned (val a) ∧ RdT w' g P hd (next a r)
theorem rd_fails (c : Int) (w : World) : Calls Tryz.prog 151 #[.int .i64 c] w fun e w' => e = .panicked (failV c) ∧ w = w' := by
  go_enter Tryz.func151, Tryz.ntmps151
  go_wp2
  exact ⟨rfl, rfl, rfl⟩
namespace RM
variable {w w' : World} {g : Nat} {P : Bs} {hd : Bool} {x : RPl} {k : Nat} {s : RSt}
theorem lt (q : RM w g P hd x k s) : g < w.heap.size := q.blk.lt
theorem belowW (q : RM w g P hd x k s) (hb : Below w.heap.size w w') : RM w' g P hd x k s :=
  ⟨q.blk.belowW hb, q.rd.below (hb.mono (Nat.le_of_lt q.lt)), q.cap, Own.belowW q.of_ hb, Own.belowW q.ob hb, Own.belowW q.oi hb, q.at_, q.rest, q.nf, q.nd, q.nq, q.st0⟩
/-- A step on. -/
theorem step (q : RM w g P hd x k s) (c : UInt8) (r : Bs) (h : s.r = c :: r) : RM (w.setCell ⟨g, 1, none⟩ (.int .i64 ((k : Int) + 1))) g P hd x (k + 1) { s with r := r } := by
  have hfr : Fr (fun i => i = g) w (w.setCell ⟨g, 1, none⟩ (.int .i64 ((k : Int) + 1))) := Fr.setCell (S := fun i => i = g) (Fr.refl _ w) (p := ⟨g, 1, none⟩) (.inl rfl) _
  have hl := q.at_
  rw [h] at hl
  simp at hl
  refine ⟨?_, q.rd.keep fun p hp => hfr.cell (Nat.lt_trans hp q.lt) (fun e => by omega), q.cap, Own.fr q.of_ hfr fun i hi e => ?_, Own.fr q.ob hfr fun i hi e => ?_, Own.fr q.oi hfr fun i hi e => ?_, by simp only []; omega, ?_, q.nf, by have := q.nd; simp only []; omega, by have := q.nq; simp only []; omega, q.st0⟩
  · have := q.blk.set_ 1 (.int .i64 ((k : Int) + 1))
    rw [show (rCells P hd x k s).setIfInBounds 1 (.int .i64 ((k : Int) + 1)) = rCells P hd x (k + 1) { s with r := r } from by simp [rCells]] at this
    exact this
  · have := (q.of_.lt i hi).1; omega
  · have := (q.ob.lt i hi).1; omega
  · have := (q.oi.lt i hi).1; omega
  · rw [← List.drop_drop, q.rest, h]; rfl
/-- Its cells. -/
theorem c8 (q : RM w g P hd x k s) : w.cell? ⟨g, 0, none⟩ = some (.slice x.a P.length x.c) ∧ w.cell? ⟨g, 1, none⟩ = some (.int .i64 (k : Int)) ∧ w.cell? ⟨g, 2, none⟩ = some (.bool hd) ∧ w.cell? ⟨g, 3, none⟩ = some (.int .i64 s.st) ∧ w.cell? ⟨g, 4, none⟩ = some x.vf ∧ w.cell? ⟨g, 5, none⟩ = some x.vb ∧ w.cell? ⟨g, 6, none⟩ = some x.vp ∧ w.cell? ⟨g, 7, none⟩ = some (.bool s.fin) ∧
    w.frozen? ⟨g, 0, none⟩ = false ∧ w.frozen? ⟨g, 1, none⟩ = false ∧ w.frozen? ⟨g, 2, none⟩ = false ∧ w.frozen? ⟨g, 3, none⟩ = false ∧ w.frozen? ⟨g, 4, none⟩ = false ∧ w.frozen? ⟨g, 5, none⟩ = false ∧ w.frozen? ⟨g, 6, none⟩ = false ∧ w.frozen? ⟨g, 7, none⟩ = false :=
  Blk.c8 q.blk
/-- Where the next byte lies. -/
theorem here (q : RM w g P hd x k s) (c : UInt8) (r : Bs) (h : s.r = c :: r) : ∃ b o, x.a = some ⟨b, o, none⟩ ∧ b < g ∧ w.cell? ⟨b, o + k, none⟩ = some (bv c) ∧ k < P.length := by
  have hl := q.at_
  rw [h] at hl
  simp at hl
  obtain ⟨b, o, h1, h2, h3⟩ := q.rd.at_ (by omega)
  refine ⟨b, o, h1, h2, h3 k _ ?_, by omega⟩
  have := q.rest
  rw [h] at this
  rw [List.getElem?_map, ← List.head?_drop, this]; rfl
theorem drew (q : RM w g P hd x k s) : RM w.drew g P hd x k s := ⟨q.blk, q.rd, q.cap, q.of_, q.ob, q.oi, q.at_, q.rest, q.nf, q.nd, q.nq, q.st0⟩
theorem drewN (q : RM w g P hd x k s) (n : Nat) : RM (w.drewN n) g P hd x k s := ⟨q.blk, q.rd, q.cap, q.of_, q.ob, q.oi, q.at_, q.rest, q.nf, q.nd, q.nq, q.st0⟩
end RM
/-- The next byte, or none. -/
def NextP (r : Bs) (w : World) (e : Ending) (w' : World) : Prop :=
  (match r with
    | [] => e = .panicked (failV 12)
    | c :: _ => e = .returned (bv c)) ∧ ∃ m, w' = w.drewN m
theorem rd_next {w : World} {g : Nat} {P : Bs} {hd : Bool} {x : RPl} {k : Nat} {s : RSt} (q : RM w g P hd x k s) (_hP : P.length ≤ 1000000) :
    Calls Tryz.prog 150 #[.pointer (some ⟨g, 0, none⟩)] w (NextP s.r w) := by
  obtain ⟨j0, j1, -⟩ := q.c8
  rcases hr : s.r with _ | ⟨c, r⟩
  · have hl := q.at_
    rw [hr] at hl
    simp at hl
    obtain rfl : k = P.length := hl
    clear hr
    go_enter Tryz.func150, Tryz.ntmps150
    go_wp2
    go_quiet (fail)
    go_wp2_with fail
    refine (rd_fails 12 _).mono ?_
    rintro e w1 ⟨rfl, rfl⟩
    exact ⟨rfl, rfl, _, rfl⟩
  · obtain ⟨b, o, ha, hb, hc, hk⟩ := q.here c r hr
    rw [ha] at j0
    have hne : ¬ k = P.length := by omega
    have hi0 : (0 : Int) ≤ (k : Int) := by omega
    have hi1 : (k : Int) < (P.length : Int) := by omega
    have hi2 : (k : Int).toNat = k := by omega
    clear hr ha
    go_enter Tryz.func150, Tryz.ntmps150
    go_wp2
    go_quiet (fail)
    go_wp2
    go_quiet (fail)
    go_wp2
    go_ret
    exact ⟨rfl, _, World.drewN_drewN _ _ _⟩

theorem rd_next1 {w : World} {g : Nat} {P : Bs} {hd : Bool} {x : RPl} {k : Nat} {s : RSt} {c : UInt8} {r : Bs} (q : RM w g P hd x k s) (hr : s.r = c :: r) (hP : P.length ≤ 1000000) (n : Nat) :
    Calls Tryz.prog 150 #[.pointer (some ⟨g, 0, none⟩)] (w.drewN n) fun e w' => e = .returned (bv c) ∧ ∃ m, w' = w.drewN m := by
  refine (rd_next (q.drewN n) hP).mono ?_
  rw [hr]
  rintro e w1 ⟨rfl, m, rfl⟩
  exact ⟨rfl, _, World.drewN_drewN _ _ _⟩
theorem rd_next0 {w : World} {g : Nat} {P : Bs} {hd : Bool} {x : RPl} {k : Nat} {s : RSt} (q : RM w g P hd x k s) (hr : s.r = []) (hP : P.length ≤ 1000000) (n : Nat) :
    Calls Tryz.prog 150 #[.pointer (some ⟨g, 0, none⟩)] (w.drewN n) fun e w' => e = .panicked (failV 12) ∧ ∃ m, w' = w.drewN m := by
  refine (rd_next (q.drewN n) hP).mono ?_
  rw [hr]
  rintro e w1 ⟨rfl, m, rfl⟩
  exact ⟨rfl, _, World.drewN_drewN _ _ _⟩
theorem text_cons' (c d : UInt8) (a r : Bs) : textL (c :: a) (d :: r) = if d = c then textL a r else .bad := by rw [textL]
/-- Only how far a reader is has turned. -/
structure FrA (g : Nat) (w w' : World) : Prop where
  fr : Fr (fun i => i = g) w w'
  cl : ∀ i, i ≠ 1 → w'.cell? ⟨g, i, none⟩ = w.cell? ⟨g, i, none⟩
namespace FrA
variable {g : Nat} {w w' w'' : World}
theorem refl (g : Nat) (w : World) : FrA g w w := ⟨Fr.refl _ w, fun _ _ => rfl⟩
theorem trans (h : FrA g w w') (k : FrA g w' w'') : FrA g w w'' := ⟨Fr.trans h.fr k.fr fun _ hi => .inl hi, fun i hi => (k.cl i hi).trans (h.cl i hi)⟩
theorem drewN (h : FrA g w w') (n : Nat) : FrA g w (w'.drewN n) := ⟨Fr.drewN h.fr n, h.cl⟩
theorem on1 (h : FrA g w w') (u : Value) : FrA g w (w'.setCell ⟨g, 1, none⟩ u) := ⟨h.fr.setCell (.inl rfl) u, fun i hi => (World.cell?_setCell_other w' _ _ u (fun e => hi (by injection e with _ e _; exact e.symm))).trans (h.cl i hi)⟩
theorem belowW (h : FrA g w w') (L : Below w'.heap.size w' w'') (hg : g < w.heap.size) : FrA g w w'' :=
  ⟨Fr.trans h.fr (Fr.ofBelow L) fun _ hi => .inr (Nat.le_trans h.fr.size hi), fun i hi => (L.cell (p := ⟨g, i, none⟩) (Nat.lt_of_lt_of_le hg h.fr.size)).trans (h.cl i hi)⟩
end FrA
theorem fr_below {w w' : World} {g : Nat} (hg : g ≤ w.heap.size) (h : FrA g w w') : Below g w w' := h.fr.toBelow hg fun i hi => by omega
/-- What comes of some text. -/
def TextP (w : World) (g : Nat) (P : Bs) (hd : Bool) (s : RSt) (T : Bs) (e : Ending) (w' : World) : Prop :=
  RPost w g P hd (textL T s.r) (fun _ => .tuple #[]) (fun _ r => { s with r := r }) e w' ∧ FrA g w w'
theorem rpost_bad {α : Type} {w : World} {g : Nat} {P : Bs} {hd : Bool} {x : R3 α} {val : α → Value} {next : α → Bs → RSt} {w' : World} (hx : x = .bad) (hb : Below g w w') : RPost w g P hd x val next (.panicked (failV 8)) w' := ⟨hb, by rw [hx]⟩
theorem rpost_short {α : Type} {w : World} {g : Nat} {P : Bs} {hd : Bool} {x : R3 α} {val : α → Value} {next : α → Bs → RSt} {w' : World} (hx : x = .short) (hb : Below g w w') : RPost w g P hd x val next (.panicked (failV 12)) w' := ⟨hb, by rw [hx]⟩
theorem rpost_ok {α : Type} {w : World} {g : Nat} {P : Bs} {hd : Bool} {x : R3 α} {val : α → Value} {next : α → Bs → RSt} {w' : World} {a : α} {r : Bs} {v : Value} (hx : x = .ok a r) (hv : v = val a) (hb : Below g w w') (hR : RdT w' g P hd (next a r)) : RPost w g P hd x val next (.returned v) w' := ⟨hb, by rw [hx, hv]; exact ⟨rfl, hR⟩⟩
theorem rd_text (T : ByteArray) {w : World} {g : Nat} {P : Bs} {hd : Bool} {s : RSt} (q : RdT w g P hd s) (hP : P.length ≤ 1000000) (hT : T.size ≤ 1000) :
    Calls Tryz.prog 101 #[.pointer (some ⟨g, 0, none⟩), .string T] w (TextP w g P hd s T.data.toList) := by
  have hg : g ≤ w.heap.size := by obtain ⟨x, k, q⟩ := q; exact Nat.le_of_lt q.lt
  go_enter Tryz.func101, Tryz.ntmps101
  go_wp2
  go_loopw [7] (fun i wr => ∃ (j : Nat) (r : Bs), j ≤ T.size ∧ i = .int .i64 j ∧ RdT wr g P hd { s with r := r } ∧ FrA g w wr ∧ Hid (textL T.data.toList s.r = textL (T.data.toList.drop j) r)) (fun i _ => T.size - (intOf i).toNat)
  case atStart => exact ⟨0, s.r, Nat.zero_le _, rfl, q, FrA.refl _ _, by rw [List.drop_zero]; rfl⟩
  case round =>
    obtain ⟨j, r, hj, rfl, ⟨x, k, q⟩, hb, H⟩ := hrel
    have hbs := PlainAid.get_bt T
    by_cases hlt : j < T.size
    · obtain ⟨b, hd1, hbt⟩ := drop_bt T j hlt
      have HD := Lib.hid hd1
      clear hd1
      have hnx := rd_next q.drew hP
      rcases r with _ | ⟨c, r⟩
      · have HE := Lib.hid (show textL T.data.toList s.r = .short by rw [H.out, HD.out]; rfl)
        go_wp2_with fail
        have hbm := fun m => hb.drewN m
        go_region_dies
        all_goals (refine hnx.mono ?_; rintro e w1 ⟨rfl, m, rfl⟩; go_simp; exact ⟨rfl, rpost_short HE.out (fr_below hg (hbm _)), hbm _⟩)
      · by_cases hcb : c = b
        · subst hcb
          have HE := Lib.hid (show textL T.data.toList s.r = textL (T.data.toList.drop (j + 1)) r by rw [H.out, HD.out, text_cons', if_pos rfl])
          have q2 := fun m => (q.drewN m).step c r rfl
          have hbm := fun m => hb.drewN m
          go_wp2_with fail
          go_quiet ((go_at_call 150; exact rd_next1 q rfl hP _))
          obtain ⟨W, hW⟩ : ∃ W, W = wr.drewN nq := ⟨_, rfl⟩
          have q3 := q2 nq
          have q4 := q.drewN nq
          have hb4 := hbm nq
          rw [← hW] at q3 q4 hb4 ⊢
          clear hW q2 hbm hnx q hb
          obtain ⟨j0, j1, -, -, -, -, -, -, -, i1, -⟩ := q4.c8
          have hk1 : (k : Int) ≤ 1000000 := by have := q4.at_; omega
          go_wp2
          go_roundw
          case rel => exact ⟨j + 1, r, by omega, by go_num, ⟨x, k + 1, q3⟩, hb4.on1 _, HE⟩
          case measure => simp [intOf]; omega
        · have HE := Lib.hid (show textL T.data.toList s.r = .bad by rw [H.out, HD.out, text_cons', if_neg hcb])
          have hne : ((c.toNat : Int) == (b.toNat : Int)) = false := by
            rw [Bool.eq_false_iff]
            intro h
            exact hcb (UInt8.toNat_inj.1 (by have := beq_iff_eq.1 h; omega))
          have hne2 : ¬ c.toNat = b.toNat := fun h => hcb (UInt8.toNat_inj.1 h)
          have hbm := fun m => hb.drewN m
          clear hcb
          go_wp2_with fail
          go_quiet ((go_at_call 150; exact rd_next1 q rfl hP _))
          go_wp2_with fail
          refine (rd_fails 8 _).mono ?_
          rintro e w1 ⟨rfl, rfl⟩
          exact ⟨rfl, rpost_bad HE.out (fr_below hg (hbm _)), hbm _⟩
    · obtain rfl : j = T.size := by omega
      have HE := Lib.hid (show textL T.data.toList s.r = .ok () r by rw [H.out, List.drop_of_length_le (by rw [len_data]; exact Nat.le_refl _)]; rfl)
      have hR : RdT wr g P hd { s with r := r } := ⟨x, k, q⟩
      go_wp2
      go_end0
      exact ⟨rpost_ok HE.out rfl (fr_below hg hb) hR, hb⟩

/-! ## while -/
/-- A test of a byte. -/
def IsP (f : FuncId) (p : UInt8 → Bool) : Prop := (∀ (args : Array Value) (w : World), (callFunc f args).run Tryz.prog w = .ok (.enter f args) w) ∧ ∀ (c : UInt8) (w : World), Calls Tryz.prog f #[.int .u8 (c.toNat : Int)] w fun e w' => e = .returned (.bool (p c)) ∧ Below w.heap.size w w'
theorem rd_isDigit (c : UInt8) (w : World) : Calls Tryz.prog 106 #[.int .u8 (c.toNat : Int)] w fun e w' => e = .returned (.bool (dgB c)) ∧ w = w' := by
  go_enter Tryz.func106, Tryz.ntmps106
  go_wp2
  all_goals (go_ret; exact ⟨retB (by rw [Bool.eq_iff_iff]; simp [dgB]; try omega), rfl⟩)
theorem is_digit : IsP 106 dgB := ⟨fun _ _ => by kernel_rfl, fun c w => (rd_isDigit c w).mono fun _ _ ⟨h1, h2⟩ => ⟨h1, h2 ▸ Below.refl _ _⟩⟩
theorem is_hex : IsP 154 hxB := by
  refine ⟨fun _ _ => by kernel_rfl, fun c w => ?_⟩
  have hd := rd_isDigit c w
  have HX := Lib.hid (show hxB c = (dgB c || decide (97 ≤ c.toNat ∧ c.toNat ≤ 102)) from rfl)
  generalize dgB c = b at *
  cases b
  · go_enter Tryz.func154, Tryz.ntmps154
    go_wp2_with fail
    refine hd.mono ?_
    rintro e w1 ⟨rfl, rfl⟩
    go_wp2
    all_goals (go_ret; exact ⟨retB (by rw [HX.out, Bool.eq_iff_iff]; simp; try omega), Below.refl _ _⟩)
  · go_enter Tryz.func154, Tryz.ntmps154
    go_wp2_with fail
    refine hd.mono ?_
    rintro e w1 ⟨rfl, rfl⟩
    go_wp2
    go_ret
    exact ⟨retB (by rw [HX.out]; rfl), Below.refl _ _⟩
theorem is_token : IsP 189 tkB := by
  refine ⟨fun _ _ => by kernel_rfl, fun c w => ?_⟩
  have hcv := run_byte_str (P := Tryz.prog) 25 5 9 Tryz.underlying25 Tryz.underlying5 Tryz.underlying9
  have LW := allocW (Below.refl w.heap.size w) (.cells #[.int .u8 (c.toNat : Int)] 5)
  have HT := Lib.hid (show (allT (⟨#[c]⟩ : ByteArray).data.toList && decide (0 < (⟨#[c]⟩ : ByteArray).data.toList.length)) = tkB c by simp [allT, tkB])
  have ht := fun w => asc_IsToken ⟨#[c]⟩ w (by show 1 ≤ _; decide)
  rw [HT.out] at ht
  go_enter Tryz.func189, Tryz.ntmps189
  go_wp2_with fail
  refine (ht _).mono ?_
  rintro e w1 ⟨rfl, rfl⟩
  go_wp2
  go_ret
  exact ⟨rfl, LW⟩
theorem is_value : IsP 190 vlB := by
  refine ⟨fun _ _ => by kernel_rfl, fun c w => ?_⟩
  have hcv := run_byte_str (P := Tryz.prog) 25 5 9 Tryz.underlying25 Tryz.underlying5 Tryz.underlying9
  have LW := allocW (Below.refl w.heap.size w) (.cells #[.int .u8 (c.toNat : Int)] 5)
  have HT := Lib.hid (show allV (⟨#[c]⟩ : ByteArray).data.toList = vlB c by simp [allV, vlB])
  have ht := fun w => asc_IsValue ⟨#[c]⟩ w (by show 1 ≤ _; decide)
  rw [HT.out] at ht
  go_enter Tryz.func190, Tryz.ntmps190
  go_wp2_with fail
  refine (ht _).mono ?_
  rintro e w1 ⟨rfl, rfl⟩
  go_wp2
  go_ret
  exact ⟨rfl, LW⟩
end Go.Proofs.YtlambdccmfnloaaGreatDoor
