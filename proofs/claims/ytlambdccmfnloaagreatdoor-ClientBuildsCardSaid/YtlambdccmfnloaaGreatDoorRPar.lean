/- usherref15: the document's Parser in memory. usherref15: bad, begins, more. usherref15: more. usherref15: more, in chunks. usherref15: one, in the head. usherref15: one, Feed, Waits. usherref15: Take. -/
import Derived.Test.YtlambdccmfnloaaGreatDoorPPl
import Derived.Test.YtlambdccmfnloaaGreatDoorRH2
import Derived.Test.YtlambdccmfnloaaGreatDoorRKon2
import Derived.Deep.CutBlock
import Derived.Test.YtlambdccmfnloaaGreatDoorPar8
import Derived.Deep.RegionHeld3
namespace Go.Proofs.YtlambdccmfnloaaGreatDoor
open Go.RowKit
set_option maxRecDepth 100000
set_option maxHeartbeats 4000000

/-- The blocks of a Parser with its head and one more part. -/
def tS (g : Nat) (Sh Sx : Nat → Prop) : Nat → Prop := fun k => k = g ∨ Sh k ∨ Sx k
structure X3 (w0 : World) (S0 : Nat → Prop) (w : World) (g : Nat) (cs : Array Value) (gh : Nat) (Sh : Nat → Prop) (h : HS) (Sx : Nat → Prop) : Prop where
  blk : Blk w g 90 cs
  hh : XHR w gh Sh h
  lx : ∀ k, Sx k → k < w.heap.size
  d1 : ¬ Sh g
  d2 : ¬ Sx g
  d3 : ∀ k, Sh k → ¬ Sx k
  m : Moved S0 (tS g Sh Sx) w0 w
namespace X3
variable {w0 w w' : World} {S0 : Nat → Prop} {g : Nat} {cs : Array Value} {gh : Nat} {Sh Sh' : Nat → Prop} {h h' : HS} {Sx Sx' : Nat → Prop}
theorem lt (q : X3 w0 S0 w g cs gh Sh h Sx) {k : Nat} (hk : tS g Sh Sx k) : k < w.heap.size := by
  rcases hk with rfl | hk | hk
  · exact q.blk.lt
  · exact q.hh.lt hk
  · exact q.lx k hk
theorem fr {T : Nat → Prop} (q : X3 w0 S0 w g cs gh Sh h Sx) (hf : Fr T w w') (hT : ∀ k, tS g Sh Sx k → ¬ T k) : X3 w' (tS g Sh Sx) w' g cs gh Sh h Sx :=
  ⟨q.blk.fr hf (hT g (.inl rfl)), q.hh.fr hf fun k hk => hT k (.inr (.inl hk)), fun k hk => Nat.lt_of_lt_of_le (q.lx k hk) hf.size, q.d1, q.d2, q.d3, Moved.refl _ _⟩
theorem re (q : X3 w0 S0 w g cs gh Sh h Sx) : X3 w (tS g Sh Sx) w g cs gh Sh h Sx := ⟨q.blk, q.hh, q.lx, q.d1, q.d2, q.d3, Moved.refl _ _⟩
theorem set_ (q : X3 w0 S0 w g cs gh Sh h Sx) (i : Nat) (u : Value) : X3 w0 S0 (w.setCell ⟨g, i, none⟩ u) g (cs.setIfInBounds i u) gh Sh h Sx := by
  have hfr : Fr (fun k => k = g) w (w.setCell ⟨g, i, none⟩ u) := Fr.setCell (S := fun k => k = g) (Fr.refl _ w) (p := ⟨g, i, none⟩) (.inl rfl) u
  have h1 : Moved (tS g Sh Sx) (tS g Sh Sx) w (w.setCell ⟨g, i, none⟩ u) := (Moved.refl _ _).set_ (.inl rfl) u
  exact ⟨q.blk.set_ i u, q.hh.fr hfr fun k hk e => q.d1 (by rw [← e]; exact hk), fun k hk => Nat.lt_of_lt_of_le (q.lx k hk) hfr.size, q.d1, q.d2, q.d3, q.m.trans h1⟩
theorem belowW (q : X3 w0 S0 w g cs gh Sh h Sx) (hb : Below w.heap.size w w') : X3 w0 S0 w' g cs gh Sh h Sx :=
  ⟨q.blk.belowW hb, q.hh.belowW hb, fun k hk => Nat.lt_of_lt_of_le (q.lx k hk) hb.size, q.d1, q.d2, q.d3, q.m.belowW hb⟩
theorem extX (q : X3 w0 S0 w g cs gh Sh h Sx) (hm : Moved Sx Sx' w w') (hl : ∀ k, Sx' k → k < w'.heap.size) : X3 w0 S0 w' g cs gh Sh h Sx' := by
  refine ⟨q.blk.fr hm.fr q.d2, q.hh.fr hm.fr q.d3, hl, q.d1, fun hx => ?_, fun k hk hx => ?_, q.m.trans ⟨hm.fr.mono fun k hk => .inl (.inr (.inr hk)), fun k hk => ?_⟩⟩
  · rcases hm.foot g hx with h1 | h1
    · exact q.d2 h1
    · have := q.blk.lt; omega
  · rcases hm.foot k hx with h1 | h1
    · exact q.d3 k hk h1
    · have := q.hh.lt hk; omega
  · rcases hk with hk | hk | hk
    · exact .inl (.inl hk)
    · exact .inl (.inr (.inl hk))
    · rcases hm.foot k hk with h1 | h1
      · exact .inl (.inr (.inr h1))
      · exact .inr h1
theorem extH (q : X3 w0 S0 w g cs gh Sh h Sx) (hh : XHR w' gh Sh' h') (hm : Moved Sh Sh' w w') : X3 w0 S0 w' g cs gh Sh' h' Sx := by
  refine ⟨q.blk.fr hm.fr q.d1, hh, fun k hk => Nat.lt_of_lt_of_le (q.lx k hk) hm.fr.size, fun hx => ?_, q.d2, fun k hk hx => ?_, q.m.trans ⟨hm.fr.mono fun k hk => .inl (.inr (.inl hk)), fun k hk => ?_⟩⟩
  · rcases hm.foot g hx with h1 | h1
    · exact q.d1 h1
    · have := q.blk.lt; omega
  · rcases hm.foot k hk with h1 | h1
    · exact q.d3 k h1 hx
    · have := q.lx k hx; omega
  · rcases hk with hk | hk | hk
    · exact .inl (.inl hk)
    · rcases hm.foot k hk with h1 | h1
      · exact .inl (.inr (.inl h1))
      · exact .inr h1
    · exact .inl (.inr (.inr hk))
/-- The third part goes. -/
theorem drop (q : X3 w0 S0 w g cs gh Sh h Sx) : X3 w0 S0 w g cs gh Sh h (fun _ => False) :=
  ⟨q.blk, q.hh, fun _ h => h.elim, q.d1, fun h => h.elim, fun _ _ h => h.elim, ⟨q.m.fr, fun k hk => by
    rcases hk with hk | hk | hk
    · exact q.m.foot k (.inl hk)
    · exact q.m.foot k (.inr (.inl hk))
    · exact hk.elim⟩⟩
/-- A new third part. -/
theorem newX (q : X3 w0 S0 w g cs gh Sh h Sx) (hb : Below w.heap.size w w') (hn : ∀ k, Sx' k → w.heap.size ≤ k ∧ k < w'.heap.size) : X3 w0 S0 w' g cs gh Sh h Sx' :=
  q.drop.extX ⟨(Fr.ofBelow hb).mono fun _ hk => .inr hk, fun k hk => .inr (hn k hk).1⟩ fun k hk => (hn k hk).2
theorem farX (q : X3 w0 S0 w g cs gh Sh h Sx) {base : Nat} {v : Value} {L : Bs} (ho : OB w base v L) (hv : ∀ k, v.ownBlock = some k → Sx k) (i : Nat) (u : Value) : OB (w.setCell ⟨g, i, none⟩ u) base v L :=
  Own.far (p := ⟨g, i, none⟩) ho (fun k hk e => q.d2 (by have h9 : k = g := e; rw [← h9]; exact hv k hk)) u
end X3
def xpCells (ph st : Int) (ch vl : Value) (y : How) (vb ck : Value) (cm : Bool) : Array Value := #[.int .i64 ph, .int .i64 st, ch, vl, .int .i64 y.kind, .int .i64 y.len, .bool y.close, .bool y.expect, vb, ck, .bool cm]
def gp (g : Nat) : Value := .pointer (some ⟨g, 0, none⟩)
/-- The document's Parser at block g, with the blocks S. -/
inductive XQ (w : World) (g : Nat) : (Nat → Prop) → PS → Prop
  | idle (ch vl vb ck : Value) (y : How) (cm : Bool) (p : PS) : p.phase = 0 → p.status = 0 → Blk w g 90 (xpCells 0 0 ch vl y vb ck cm) → XQ w g (fun k => k = g) p
  | head (gh : Nat) (Sh : Nat → Prop) (vl vb ck : Value) (y : How) (cm : Bool) (p : PS) : p.phase = 1 → p.status = 0 → X3 w (tS g Sh (fun k => vl.ownBlock = some k)) w g (xpCells 1 0 (gp gh) vl y vb ck cm) gh Sh p.head (fun k => vl.ownBlock = some k) → OB w 0 vl p.line → XQ w g (tS g Sh (fun k => vl.ownBlock = some k)) p
  | len (gh : Nat) (Sh : Nat → Prop) (vl vb ck : Value) (p : PS) : p.phase = 2 → p.status = 0 → p.chunks = none → X3 w (tS g Sh (fun k => vb.ownBlock = some k)) w g (xpCells 2 0 (gp gh) vl p.head.how vb ck (decide (0 < p.fed))) gh Sh p.head (fun k => vb.ownBlock = some k) → OB w 0 vb p.body → XQ w g (tS g Sh (fun k => vb.ownBlock = some k)) p
  | chunk (gh : Nat) (Sh : Nat → Prop) (vl vb : Value) (gk : Nat) (Sk : Nat → Prop) (r : CS) (p : PS) : p.phase = 2 → p.status = 0 → p.chunks = some r → X3 w (tS g Sh Sk) w g (xpCells 2 0 (gp gh) vl p.head.how vb (gp gk) (decide (0 < p.fed))) gh Sh p.head Sk → XR w gk Sk r → XQ w g (tS g Sh Sk) p
  | whole (gh : Nat) (Sh : Nat → Prop) (vl : Value) (A : Option Addr) (c : Nat) (ck : Value) (cm : Bool) (Sx : Nat → Prop) (p : PS) : p.phase = 3 → p.status = 0 → X3 w (tS g Sh Sx) w g (xpCells 3 0 (gp gh) vl p.head.how (.slice A p.body.length c) ck cm) gh Sh p.head Sx → Rd w w.heap.size 1 A p.body.length (p.body.map bv) → (0 < p.body.length → ∀ a, A = some a → Sx a.block) → p.body.length ≤ c → XQ w g (tS g Sh Sx) p
  | bad (ch vl vb ck : Value) (y : How) (cm : Bool) (p : PS) : p.phase = 4 → Blk w g 90 (xpCells 4 p.status ch vl y vb ck cm) → XQ w g (fun k => k = g) p
namespace XQ
variable {w w' : World} {g : Nat} {S T : Nat → Prop} {p : PS}
theorem lt (q : XQ w g S p) {k : Nat} (hk : S k) : k < w.heap.size := by
  cases q with
  | idle ch vl vb ck y cm p hp hs hb => rw [hk]; exact hb.lt
  | head gh Sh vl vb ck y cm p hp hs x ho => exact x.lt hk
  | len gh Sh vl vb ck p hp hs hc x ho => exact x.lt hk
  | chunk gh Sh vl vb gk Sk r p hp hs hc x hr => exact x.lt hk
  | whole gh Sh vl A c ck cm Sx p hp hs x hr ha hc => exact x.lt hk
  | bad ch vl vb ck y cm p hp hb => rw [hk]; exact hb.lt
theorem fr (q : XQ w g S p) (hf : Fr T w w') (hT : ∀ k, S k → ¬ T k) : XQ w' g S p := by
  cases q with
  | idle ch vl vb ck y cm p hp hs hb => exact .idle ch vl vb ck y cm p hp hs (hb.fr hf (hT g rfl))
  | head gh Sh vl vb ck y cm p hp hs x ho => exact .head gh Sh vl vb ck y cm p hp hs (x.fr hf hT) (Own.fr ho hf fun k hk => hT k (.inr (.inr hk)))
  | len gh Sh vl vb ck p hp hs hc x ho => exact .len gh Sh vl vb ck p hp hs hc (x.fr hf hT) (Own.fr ho hf fun k hk => hT k (.inr (.inr hk)))
  | chunk gh Sh vl vb gk Sk r p hp hs hc x hr => exact .chunk gh Sh vl vb gk Sk r p hp hs hc (x.fr hf hT) (hr.fr hf fun k hk => hT k (.inr (.inr hk)))
  | whole gh Sh vl A c ck cm Sx p hp hs x hr ha hc => exact .whole gh Sh vl A c ck cm Sx p hp hs (x.fr hf hT) ((hr.frm (Nat.le_refl _) hf fun h0 a e => hT _ (.inr (.inr (ha h0 a e)))).more hf.size) ha hc
  | bad ch vl vb ck y cm p hp hb => exact .bad ch vl vb ck y cm p hp (hb.fr hf (hT g rfl))
theorem belowW (q : XQ w g S p) (hb : Below w.heap.size w w') : XQ w' g S p :=
  q.fr (Fr.ofBelow hb) fun k hk hs => by have := q.lt hk; omega
/-- What everybody may read. -/
theorem top (q : XQ w g S p) : w.cell? ⟨g, 0, none⟩ = some (.int .i64 (p.phase : Int)) ∧ (p.phase ≤ 3 → p.status = 0 ∧ w.cell? ⟨g, 1, none⟩ = some (.int .i64 0)) ∧ (p.phase = 4 → w.cell? ⟨g, 1, none⟩ = some (.int .i64 p.status)) ∧ S g := by
  cases q with
  | idle ch vl vb ck y cm p hp hs hb => rw [hp]; exact ⟨hb.cell 0, fun _ => ⟨hs, hb.cell 1⟩, fun h => absurd h (by decide), rfl⟩
  | head gh Sh vl vb ck y cm p hp hs x ho => rw [hp]; exact ⟨x.blk.cell 0, fun _ => ⟨hs, x.blk.cell 1⟩, fun h => absurd h (by decide), .inl rfl⟩
  | len gh Sh vl vb ck p hp hs hc x ho => rw [hp]; exact ⟨x.blk.cell 0, fun _ => ⟨hs, x.blk.cell 1⟩, fun h => absurd h (by decide), .inl rfl⟩
  | chunk gh Sh vl vb gk Sk r p hp hs hc x hr => rw [hp]; exact ⟨x.blk.cell 0, fun _ => ⟨hs, x.blk.cell 1⟩, fun h => absurd h (by decide), .inl rfl⟩
  | whole gh Sh vl A c ck cm Sx p hp hs x hr ha hc => rw [hp]; exact ⟨x.blk.cell 0, fun _ => ⟨hs, x.blk.cell 1⟩, fun h => absurd h (by decide), .inl rfl⟩
  | bad ch vl vb ck y cm p hp hb => rw [hp]; exact ⟨hb.cell 0, fun h => absurd h (by decide), fun _ => hb.cell 1, rfl⟩
end XQ
end Go.Proofs.YtlambdccmfnloaaGreatDoor
namespace Go.Proofs.YtlambdccmfnloaaGreatDoor
open Go.RowKit
set_option maxRecDepth 100000
set_option maxHeartbeats 4000000

theorem Blk.c11 {w : World} {g : Nat} {t : TypeId} {a0 a1 a2 a3 a4 a5 a6 a7 a8 a9 a10 : Value} (h : Blk w g t #[a0, a1, a2, a3, a4, a5, a6, a7, a8, a9, a10]) : (w.cell? ⟨g, 0, none⟩ = some a0 ∧ w.cell? ⟨g, 1, none⟩ = some a1 ∧ w.cell? ⟨g, 2, none⟩ = some a2 ∧ w.cell? ⟨g, 3, none⟩ = some a3 ∧ w.cell? ⟨g, 4, none⟩ = some a4 ∧ w.cell? ⟨g, 5, none⟩ = some a5 ∧ w.cell? ⟨g, 6, none⟩ = some a6 ∧ w.cell? ⟨g, 7, none⟩ = some a7 ∧ w.cell? ⟨g, 8, none⟩ = some a8 ∧ w.cell? ⟨g, 9, none⟩ = some a9 ∧ w.cell? ⟨g, 10, none⟩ = some a10) ∧ ∀ i, w.frozen? ⟨g, i, none⟩ = false :=
  ⟨⟨h.cell 0, h.cell 1, h.cell 2, h.cell 3, h.cell 4, h.cell 5, h.cell 6, h.cell 7, h.cell 8, h.cell 9, h.cell 10⟩, fun i => h.frozen i⟩
theorem xr_fresh (w : World) : XR (w.alloc (.cells #[.slice none 0 0, .slice none 0 0, .bool false, .int .i64 0, .int .i64 0, .slice none 0 0, .int .i64 0, .int .i64 0] 192)) w.heap.size (foot w.heap.size (.slice none 0 0) (.slice none 0 0) (.slice none 0 0)) cs0 :=
  ⟨_, _, _, rfl, Blk.new' _ _ rfl _ _, OB.nil _ _, OB.nil _ _, OF.nil _ _, by simp [Value.ownBlock], by simp [Value.ownBlock], by simp [Value.ownBlock], by simp [Value.ownBlock], by simp [Value.ownBlock], by simp [Value.ownBlock]⟩
theorem xhr_fresh (w : World) : XHR (w.alloc (.cells #[.slice none 0 0, .string ⟨#[]⟩, .int .i64 0, .string ⟨#[]⟩, .string ⟨#[]⟩, .string ⟨#[]⟩, .int .i64 0, .int .i64 0, .int .i64 0, .bool false, .bool false, .bool false, .bool false, .int .i64 0, .int .i64 0, .int .i64 0] 134)) w.heap.size (FS w.heap.size (.slice none 0 0)) hs0 :=
  ⟨_, 0, rfl, ⟨Blk.new' _ _ rfl _ _, rfl, OF.nil _ _, Nat.zero_le _, by simp [Value.ownBlock]⟩, fun _ => rfl⟩
/-- What became of it. -/
def XQPost (w : World) (g : Nat) (S : Nat → Prop) (p : PS) (e : Ending) (w' : World) : Prop :=
  e = .returned (.tuple #[]) ∧ ∃ S', XQ w' g S' p ∧ Moved S S' w w'
theorem xp_bad (g : Nat) (cs : Array Value) (st : Int) (w : World) (hb : Blk w g 90 cs) (h0 : ∃ u, cs[0]? = some u) (h1 : ∃ u, cs[1]? = some u) :
    Calls Tryz.prog 138 #[.pointer (some ⟨g, 0, none⟩), .int .i64 st] w fun e w' => e = .returned (.tuple #[]) ∧ w' = (w.setCell ⟨g, 0, none⟩ (.int .i64 4)).setCell ⟨g, 1, none⟩ (.int .i64 st) := by
  obtain ⟨u0, h0⟩ := h0
  obtain ⟨u1, h1⟩ := h1
  have c0 := (hb.cell 0).trans h0
  have c1 := (hb.cell 1).trans h1
  have f0 := hb.frozen 0
  have f1 := hb.frozen 1
  clear hb
  go_enter Tryz.func138, Tryz.ntmps138
  go_wp2
  go_end0
  exact ⟨rfl, rfl⟩
theorem X3.bad {w0 w : World} {S0 : Nat → Prop} {g : Nat} {ph s0 : Int} {ch vl vb ck : Value} {y : How} {cm : Bool} {gh : Nat} {Sh : Nat → Prop} {h : HS} {Sx : Nat → Prop} {p : PS} {st : Int}
    (q : X3 w0 S0 w g (xpCells ph s0 ch vl y vb ck cm) gh Sh h Sx) (hp : p.phase = 4) (hs : p.status = st) : XQPost w0 g S0 p (.returned (.tuple #[])) ((w.setCell ⟨g, 0, none⟩ (.int .i64 4)).setCell ⟨g, 1, none⟩ (.int .i64 st)) := by
  have q2 := (q.set_ 0 (.int .i64 4)).set_ 1 (.int .i64 st)
  refine ⟨rfl, _, .bad ch vl vb ck y cm p hp ?_, ⟨q2.m.fr, fun k hk => q2.m.foot k (.inl hk)⟩⟩
  rw [hs]
  exact q2.blk
theorem XHR.how {w : World} {gh : Nat} {Sh : Nat → Prop} {h : HS} (k : XHR w gh Sh h) : Sh gh ∧ w.cell? ⟨gh, 7, none⟩ = some (.int .i64 h.how.kind) ∧ w.cell? ⟨gh, 8, none⟩ = some (.int .i64 h.how.len) ∧ w.cell? ⟨gh, 9, none⟩ = some (.bool h.how.close) ∧ w.cell? ⟨gh, 10, none⟩ = some (.bool h.how.expect) ∧ w.cell? ⟨gh, 11, none⟩ = some (.bool h.begun) := by
  obtain ⟨v, bb, rfl, k, -⟩ := k
  have hb := k.blk
  unfold xhCells at hb
  exact ⟨.inl rfl, hb.cell 7, hb.cell 8, hb.cell 9, hb.cell 10, hb.cell 11⟩
theorem X3.n1 {w0 w : World} {S0 : Nat → Prop} {g : Nat} {cs : Array Value} {gh : Nat} {Sh : Nat → Prop} {h : HS} {Sx : Nat → Prop} (q : X3 w0 S0 w g cs gh Sh h Sx) : ¬ g = gh ∧ ¬ gh = g ∧ g < w.heap.size ∧ gh < w.heap.size :=
  ⟨fun e => q.d1 (by rw [e]; exact q.hh.how.1), fun e => q.d1 (by have h9 := q.hh.how.1; rw [e] at h9; exact h9), q.blk.lt, q.hh.lt q.hh.how.1⟩
theorem XQPost.head {w0 w : World} {S0 : Nat → Prop} {g gh : Nat} {Sh : Nat → Prop} {vl vb ck : Value} {y : How} {cm : Bool} {p : PS} {h : HS}
    (q : X3 w0 S0 w g (xpCells 1 0 (gp gh) vl y vb ck cm) gh Sh h (fun k => vl.ownBlock = some k)) (hh : h = p.head) (ho : OB w 0 vl p.line) (hp : p.phase = 1) (hs : p.status = 0) : XQPost w0 g S0 p (.returned (.tuple #[])) w := by
  subst hh
  exact ⟨rfl, _, .head gh Sh vl vb ck y cm p hp hs q.re ho, q.m⟩
theorem X3.cells {w0 w : World} {S0 : Nat → Prop} {g : Nat} {cs cs' : Array Value} {gh : Nat} {Sh : Nat → Prop} {h : HS} {Sx : Nat → Prop} (q : X3 w0 S0 w g cs gh Sh h Sx) (e : cs = cs') : X3 w0 S0 w g cs' gh Sh h Sx := e ▸ q
theorem xp_how (ph st : Int) (ch vl vb ck : Value) (y z : How) (cm : Bool) (ph' : Int) (b : Nat) : ((((((((xpCells ph st ch vl y vb ck cm).setIfInBounds 4 (.int .i64 z.kind)).setIfInBounds 5 (.int .i64 z.len)).setIfInBounds 6 (.bool z.close)).setIfInBounds 7 (.bool z.expect)).setIfInBounds 8 (.slice none 0 0)).setIfInBounds 10 (.bool false)).setIfInBounds 9 (.pointer (some ⟨b, 0, none⟩))).setIfInBounds 0 (.int .i64 ph') = xpCells ph' st ch vl z (.slice none 0 0) (gp b) false := by
  simp [xpCells, gp]
theorem xp_ph (ph st : Int) (ch vl vb ck : Value) (y : How) (cm : Bool) (ph' : Int) : (xpCells ph st ch vl y vb ck cm).setIfInBounds 0 (.int .i64 ph') = xpCells ph' st ch vl y vb ck cm := by simp [xpCells]
theorem xp_begins (w0 : World) (S0 : Nat → Prop) (g gh : Nat) (vl vb ck : Value) (y : How) (cm : Bool) (Sh Sx : Nat → Prop) (p : PS) (w : World) (q : X3 w0 S0 w g (xpCells 1 0 (gp gh) vl y vb ck cm) gh Sh p.head Sx) (hl : HLen p.head) (h1 : p.chunks = none) (h2 : p.body = []) (h3 : p.fed = 0) (h4 : p.status = 0) :
    Calls Tryz.prog 140 #[.pointer (some ⟨g, 0, none⟩)] w (XQPost w0 g S0 (pFrames p)) := by
  obtain ⟨n1, n2, hgw, hghw⟩ := q.n1
  obtain ⟨-, f7, f8, f9, f10, -⟩ := q.hh.how
  obtain ⟨⟨j0, j1, j2, j3, j4, j5, j6, j7, j8, j9, j10⟩, jf⟩ := Blk.c11 q.blk
  unfold gp at j2
  obtain ⟨z, hz⟩ : ∃ z, z = p.head.how := ⟨_, rfl⟩
  have HZ := Lib.hid hz
  rw [← hz] at f7 f8 f9 f10
  have i0 := jf 0
  have i4 := jf 4
  have i5 := jf 5
  have i6 := jf 6
  have i7 := jf 7
  have i8 := jf 8
  have i9 := jf 9
  have i10 := jf 10
  have hl0 := hl.len0
  have hl1 := hl.len1
  have hln := hl.none
  have hlk := hl.kind
  rw [← hz] at hl0 hl1 hln hlk
  have q8 := ((((((((q.set_ 4 (.int .i64 z.kind)).set_ 5 (.int .i64 z.len)).set_ 6 (.bool z.close)).set_ 7 (.bool z.expect)).set_ 8 (.slice none 0 0)).set_ 10 (.bool false)).set_ 9 (.pointer (some ⟨w.heap.size, 0, none⟩))).set_ 0 (.int .i64 2)).cells (xp_how 1 0 (gp gh) vl vb ck y z cm 2 w.heap.size)
  have hV : ((((((((w.setCell ⟨g, 4, none⟩ (.int .i64 z.kind)).setCell ⟨g, 5, none⟩ (.int .i64 z.len)).setCell ⟨g, 6, none⟩ (.bool z.close)).setCell ⟨g, 7, none⟩ (.bool z.expect)).setCell ⟨g, 8, none⟩ (.slice none 0 0)).setCell ⟨g, 10, none⟩ (.bool false)).setCell ⟨g, 9, none⟩ (.pointer (some ⟨w.heap.size, 0, none⟩))).setCell ⟨g, 0, none⟩ (.int .i64 2)).heap.size = w.heap.size := by simp
  have H3 := Lib.hid h3
  have H4 := Lib.hid h4
  have H1 := Lib.hid h1
  have H2 := Lib.hid h2
  clear jf h1 h2 h3 h4
  by_cases hk2 : z.kind = 2
  · have e0 : (z.kind == 0) = false := by rw [hk2]; rfl
    have e1 : (z.kind == 1) = false := by rw [hk2]; rfl
    have HF := Lib.hid (show pFrames p = { p with phase := 2, chunks := some cs0 } by rw [pFrames, if_pos (by rw [← hz]; exact hk2)])
    have HV := Lib.hid hV
    clear hz hk2 hV
    go_enter Tryz.func140, Tryz.ntmps140
    go_wp2
    go_end0
    rw [HF.out]
    have hV := HV.out
    generalize ((((((((w.setCell ⟨g, 4, none⟩ (.int .i64 z.kind)).setCell ⟨g, 5, none⟩ (.int .i64 z.len)).setCell ⟨g, 6, none⟩ (.bool z.close)).setCell ⟨g, 7, none⟩ (.bool z.expect)).setCell ⟨g, 8, none⟩ (.slice none 0 0)).setCell ⟨g, 10, none⟩ (.bool false)).setCell ⟨g, 9, none⟩ (.pointer (some ⟨w.heap.size, 0, none⟩))).setCell ⟨g, 0, none⟩ (.int .i64 2)) = V at q8 hV ⊢
    have hx := xr_fresh V
    have q9 := q8.newX (Sx' := foot V.heap.size (.slice none 0 0) (.slice none 0 0) (.slice none 0 0)) (allocW (Below.refl _ _) (.cells #[.slice none 0 0, .slice none 0 0, .bool false, .int .i64 0, .int .i64 0, .slice none 0 0, .int .i64 0, .int .i64 0] 192)) (fun k hk => ⟨by rcases hk with h | h | h | h <;> first | omega | (simp [Value.ownBlock] at h), hx.lt hk⟩)
    rw [← hV] at q9
    refine ⟨rfl, _, .chunk gh Sh vl (.slice none 0 0) V.heap.size _ cs0 { p with phase := 2, chunks := some cs0 } rfl H4.out rfl ?_ hx, q9.m⟩
    simp only [H3.out, Nat.lt_irrefl, decide_false, ← HZ.out]
    exact q9.re
  · by_cases h0 : 0 < z.len
    · have hk1 : z.kind = 1 := by
        rcases hlk with h | h | h
        · have := hln h; omega
        · exact h
        · exact absurd h hk2
      have e0 : (z.kind == 0) = false := by rw [hk1]; rfl
      have e1 : (z.kind == 1) = true := by rw [hk1]; rfl
      have e2 : (z.len == 0) = false := by rw [Bool.eq_false_iff]; intro h9; rw [beq_iff_eq] at h9; omega
      have HF := Lib.hid (show pFrames p = { p with phase := 2, left := z.len.toNat } by rw [pFrames, if_neg (by rw [← hz]; exact hk2), if_pos (by rw [← hz]; exact h0), ← hz])
      clear hz hk2 hV hlk hln hk1 h0
      go_enter Tryz.func140, Tryz.ntmps140
      go_wp2
      go_end0
      rw [HF.out]
      have q9 := (q8.drop.belowW (allocW (Below.refl _ _) (.cells #[.slice none 0 0, .slice none 0 0, .bool false, .int .i64 0, .int .i64 0, .slice none 0 0, .int .i64 0, .int .i64 0] 192)))
      have hE : (fun _ : Nat => False) = (fun k => (Value.slice none 0 0).ownBlock = some k) := by funext k; simp [Value.ownBlock]
      rw [hE] at q9
      refine ⟨rfl, _, .len gh Sh vl (.slice none 0 0) (gp w.heap.size) { p with phase := 2, left := z.len.toNat } rfl H4.out H1.out ?_ ?_, q9.m⟩
      · simp only [H3.out, Nat.lt_irrefl, decide_false, ← HZ.out]
        exact q9.re
      · simp only [H2.out]
        exact OB.nil _ _
    · have hz0 : z.len = 0 := by omega
      have e0 : (z.kind == 0) = true ∨ ((z.kind == 0) = false ∧ (z.kind == 1) = true) := by
        rcases hlk with h | h | h
        · exact .inl (by rw [h]; rfl)
        · exact .inr (by rw [h]; exact ⟨rfl, rfl⟩)
        · exact absurd h hk2
      have e2 : (z.len == 0) = true := by rw [hz0]; rfl
      have HF := Lib.hid (show pFrames p = { p with phase := 3 } by rw [pFrames, if_neg (by rw [← hz]; exact hk2), if_neg (by rw [← hz]; exact h0)])
      have q9 := (q8.set_ 0 (.int .i64 3)).cells (xp_ph 2 0 (gp gh) vl (.slice none 0 0) (gp w.heap.size) z false 3)
      rw [hz0] at q9
      clear hz hk2 hV hlk hln h0
      rcases e0 with e0 | ⟨e0, e1⟩
      all_goals
        go_enter Tryz.func140, Tryz.ntmps140
        go_wp2
        go_end0
        rw [HF.out]
        have q10 := q9.drop.belowW (allocW (Below.refl _ _) (.cells #[.slice none 0 0, .slice none 0 0, .bool false, .int .i64 0, .int .i64 0, .slice none 0 0, .int .i64 0, .int .i64 0] 192))
        refine ⟨rfl, _, .whole gh Sh vl none 0 (gp w.heap.size) false (fun _ => False) { p with phase := 3 } rfl H4.out ?_ ?_ ?_ ?_, q10.m⟩
        · simp only [H2.out, List.length_nil, ← HZ.out]
          exact q10.re
        · simp only [H2.out, List.length_nil, List.map_nil]
          exact Rd.nil _ _ _ _
        · intro h9
          simp only [H2.out, List.length_nil, Nat.lt_irrefl] at h9
        · simp only [H2.out, List.length_nil, Nat.le_refl]
end Go.Proofs.YtlambdccmfnloaaGreatDoor
namespace Go.Proofs.YtlambdccmfnloaaGreatDoor
open Go.RowKit
set_option maxRecDepth 100000
set_option maxHeartbeats 4000000

theorem xp_cm (ph st : Int) (ch vl vb ck : Value) (y : How) (cm : Bool) : (xpCells ph st ch vl y vb ck cm).setIfInBounds 10 (.bool true) = xpCells ph st ch vl y vb ck true := by simp [xpCells]
theorem xp_vb (ph st : Int) (ch vl vb ck : Value) (y : How) (cm : Bool) (v : Value) : (xpCells ph st ch vl y vb ck cm).setIfInBounds 8 v = xpCells ph st ch vl y v ck cm := by simp [xpCells]
theorem xp_vl (ph st : Int) (ch vl vb ck : Value) (y : How) (cm : Bool) (v : Value) : (xpCells ph st ch vl y vb ck cm).setIfInBounds 3 v = xpCells ph st ch v y vb ck cm := by simp [xpCells]
theorem moved_ext {w w' : World} {v v' : Value} (hx : Ext w w' v v') : Moved (fun k => v.ownBlock = some k) (fun k => v'.ownBlock = some k) w w' :=
  ⟨hx.fr, fun k hk => hx.own k hk⟩
theorem OB.ownB {w : World} {base : Nat} {A : Option Addr} {n c : Nat} {l : Bs} (ho : OB w base (.slice A n c) l) (h0 : 0 < l.length) : ∀ a, A = some a → (Value.slice A n c).ownBlock = some a.block := by
  intro a ha
  obtain ⟨g, cap, e, -⟩ := Own.form ho h0
  injection e with e1 e2 e3
  rw [e1] at ha
  injection ha with ha
  subst ha
  rw [e1]; rfl
theorem xp_more_len (g gh : Nat) (Sh : Nat → Prop) (vl vb ck : Value) (p : PS) (c : UInt8) (w : World) (hp : p.phase = 2) (hs : p.status = 0) (hc : p.chunks = none)
    (q : X3 w (tS g Sh (fun k => vb.ownBlock = some k)) w g (xpCells 2 0 (gp gh) vl p.head.how vb ck (decide (0 < p.fed))) gh Sh p.head (fun k => vb.ownBlock = some k)) (ho : OB w 0 vb p.body) (hi : PInv p) (hb : PB p) :
    Calls Tryz.prog 137 #[.pointer (some ⟨g, 0, none⟩), .int .u8 (c.toNat : Int)] w (XQPost w g (tS g Sh (fun k => vb.ownBlock = some k)) (pLen p [c])) := by
  obtain ⟨hk, hl⟩ := hb.len hp hc
  have hlf := hi.len hp hc
  have hbd := hi.body
  obtain ⟨A, cp, rfl, hcp1, hcp2, hrd⟩ := ho.form
  have q1 := (q.set_ 10 (.bool true)).cells (xp_cm _ _ _ _ _ _ _ _)
  have o1 := q.farX ho (fun k hk => hk) 10 (.bool true)
  obtain ⟨⟨j0, j1, j2, j3, j4, j5, j6, j7, j8, j9, j10⟩, jf⟩ := Blk.c11 q.blk
  have i10 := jf 10
  have e1 : (p.head.how.kind == 1) = true := by rw [hk]; rfl
  have HL := Lib.hid hl
  have i8 := jf 8
  have i0 := jf 0
  clear jf hl hk hrd
  by_cases h1 : p.left = 1
  · have e2 : ((p.body.length : Int) + 1 == p.head.how.len) = true := by rw [beq_iff_eq, ← HL.out, h1]; omega
    have HR := Lib.hid (show pLen p [c] = { p with body := p.body ++ [c], left := p.left - 1, fed := p.fed + 1, phase := 3 } by unfold pLen; rw [if_pos (by simpa using h1)]; rfl)
    clear h1
    go_enter Tryz.func137, Tryz.ntmps137
    go_wp2_with (at_builtin; refine wp_app1 rfl _ _ rfl 0 (.slice A p.body.length cp) _ rfl o1 w.heap.size (by simp) _ rfl c rfl (by omega) (Nat.zero_le _) ?_; intro v' w2 ho2 hx; have h2 := q1.extX (moved_ext hx) (fun k hk => Own.lt2 ho2 hk); obtain ⟨A3, c3, hv3, hc31, hc32, hc33⟩ := ho2.form; rw [show (p.body ++ [c]).length = p.body.length + 1 by simp] at hv3; subst hv3; obtain ⟨⟨m0, m1, m2, m3, m4, m5, m6, m7, m8, m9, m10⟩, mf⟩ := Blk.c11 h2.blk; have m8f := mf 8; have m0f := mf 0; clear hx mf)
    go_quiet (fail)
    go_wp2
    go_end0
    rw [HR.out]
    have h3 := ((h2.set_ 8 _).cells (xp_vb _ _ _ _ _ _ _ _ (.slice A3 (p.body.length + 1) c3))).belowW (below_drewN' (Below.refl _ _) nq)
    have o3 := (h2.farX ho2 (fun k hk => hk) 8 (.slice A3 (p.body.length + 1) c3)).drewN nq
    have o4 := h3.farX o3 (fun k hk => hk) 0 (.int .i64 3)
    have h4 := (h3.set_ 0 (.int .i64 3)).cells (xp_ph _ _ _ _ _ _ _ _ _)
    have hln : p.body.length + 1 = (p.body ++ [c]).length := by simp
    rw [hln] at h4 o4 ⊢
    obtain ⟨A4, c4, hv4, hc41, -, hr4⟩ := o4.form
    have hob := o4.ownB (by rw [← hln]; omega)
    injection hv4 with ea _ ec
    subst ea ec
    exact ⟨rfl, _, .whole gh Sh vl _ _ ck true _ { p with body := p.body ++ [c], left := p.left - 1, fed := p.fed + 1, phase := 3 } rfl hs h4.re hr4 (fun _ => hob) hc41, h4.m⟩
  · have e2 : ((p.body.length : Int) + 1 == p.head.how.len) = false := by rw [Bool.eq_false_iff]; intro h9; rw [beq_iff_eq, ← HL.out] at h9; omega
    have HR := Lib.hid (show pLen p [c] = { p with body := p.body ++ [c], left := p.left - 1, fed := p.fed + 1, phase := 2 } by unfold pLen; rw [if_neg (by simpa using h1)]; rfl)
    clear h1
    go_enter Tryz.func137, Tryz.ntmps137
    go_wp2_with (at_builtin; refine wp_app1 rfl _ _ rfl 0 (.slice A p.body.length cp) _ rfl o1 w.heap.size (by simp) _ rfl c rfl (by omega) (Nat.zero_le _) ?_; intro v' w2 ho2 hx; have h2 := q1.extX (moved_ext hx) (fun k hk => Own.lt2 ho2 hk); obtain ⟨A3, c3, hv3, hc31, hc32, hc33⟩ := ho2.form; rw [show (p.body ++ [c]).length = p.body.length + 1 by simp] at hv3; subst hv3; obtain ⟨⟨m0, m1, m2, m3, m4, m5, m6, m7, m8, m9, m10⟩, mf⟩ := Blk.c11 h2.blk; have m8f := mf 8; have m0f := mf 0; clear hx mf)
    go_quiet (fail)
    go_wp2
    go_end0
    rw [HR.out]
    have h3 := ((h2.set_ 8 _).cells (xp_vb _ _ _ _ _ _ _ _ (.slice A3 (p.body.length + 1) c3))).belowW (below_drewN' (Below.refl _ _) nq)
    have o3 := (h2.farX ho2 (fun k hk => hk) 8 (.slice A3 (p.body.length + 1) c3)).drewN nq
    refine ⟨rfl, _, .len gh Sh vl _ ck { p with body := p.body ++ [c], left := p.left - 1, fed := p.fed + 1, phase := 2 } rfl hs hc ?_ o3, h3.m⟩
    rw [show decide (0 < p.fed + 1) = true by simp]
    exact h3.re
end Go.Proofs.YtlambdccmfnloaaGreatDoor
namespace Go.Proofs.YtlambdccmfnloaaGreatDoor
open Go.RowKit
set_option maxRecDepth 100000
set_option maxHeartbeats 4000000

theorem X3.farR {w0 w : World} {S0 : Nat → Prop} {g : Nat} {cs : Array Value} {gh : Nat} {Sh : Nat → Prop} {h : HS} {Sx : Nat → Prop} (q : X3 w0 S0 w g cs gh Sh h Sx) {gk : Nat} {r : CS} (hr : XR w gk Sx r) (i : Nat) (u : Value) : XR (w.setCell ⟨g, i, none⟩ u) gk Sx r :=
  hr.fr (Fr.setCell (S := fun k => k = g) (Fr.refl _ w) (p := ⟨g, i, none⟩) (.inl rfl) u) fun k hk e => q.d2 (by rw [← e]; exact hk)
theorem XR.bodyV {w : World} {gk : Nat} {Sk : Nat → Prop} {r : CS} (h : XR w gk Sk r) : ∃ A c, w.cell? ⟨gk, 0, none⟩ = some (.slice A r.body.length c) ∧ Rd w w.heap.size 1 A r.body.length (r.body.map bv) ∧ (0 < r.body.length → ∀ a, A = some a → Sk a.block) ∧ r.body.length ≤ c ∧ Sk gk := by
  obtain ⟨vl, vb, vt, rfl, h⟩ := h
  have hb := h.ob
  obtain ⟨A, c, rfl, h1, -, h3⟩ := hb.form
  refine ⟨A, c, ?_, h3, fun h0 a ha => .inr (.inr (.inl (hb.ownB h0 a ha))), h1, .inl rfl⟩
  have hk := h.blk
  unfold xCells at hk
  exact hk.cell 0
theorem xp_more_chunk (g gh : Nat) (Sh : Nat → Prop) (vl vb : Value) (gk : Nat) (Sk : Nat → Prop) (r : CS) (p : PS) (c : UInt8) (w : World) (hp : p.phase = 2) (hs : p.status = 0) (hc : p.chunks = some r)
    (q : X3 w (tS g Sh Sk) w g (xpCells 2 0 (gp gh) vl p.head.how vb (gp gk) (decide (0 < p.fed))) gh Sh p.head Sk) (hr : XR w gk Sk r) (hi : PInv p) (hb : PB p) :
    Calls Tryz.prog 137 #[.pointer (some ⟨g, 0, none⟩), .int .u8 (c.toNat : Int)] w (XQPost w g (tS g Sh Sk) (pChunk p (cByte r c) 1)) := by
  have hk := hb.chk hp r hc
  obtain ⟨hCI, h3⟩ := hi.chk r hc
  obtain ⟨hon, hpb, hpl⟩ := h3 hp
  have hcf : cFeed r [c] = (1, cByte r c) := by rw [cFeed_on r c [] hon]; rfl
  have q1 := (q.set_ 10 (.bool true)).cells (xp_cm _ _ _ _ _ _ _ _)
  have r1 := q.farR hr 10 (.bool true)
  have hz : (w.setCell ⟨g, 10, none⟩ (.bool true)).heap.size = w.heap.size := by simp
  have LA := allocW (Below.refl _ (w.setCell ⟨g, 10, none⟩ (.bool true))) (.cells #[.int .u8 (c.toNat : Int)] 5)
  have r2 := r1.belowW LA
  have q2 := q1.belowW LA
  have hrd := Rd.new (w.setCell ⟨g, 10, none⟩ (.bool true)) w.heap.size hz.symm [bv c] 5 1 1 rfl
  have hF := xref_Feed gk Sk r (some ⟨w.heap.size, 0, none⟩) 1 1 _ [c] _ r2 hCI hrd (by rw [← hz]; simp) (fun _ a ha hs => by injection ha with ha; subst ha; exact absurd (hr.lt hs) (Nat.lt_irrefl _)) (by decide)
  rw [hcf] at hF
  obtain ⟨⟨j0, j1, j2, j3, j4, j5, j6, j7, j8, j9, j10⟩, jf⟩ := Blk.c11 q.blk
  have i10 := jf 10
  have e1 : (p.head.how.kind == 1) = false := by rw [hk]; rfl
  unfold gp at j9
  obtain ⟨R, hR⟩ : ∃ R, R = cByte r c := ⟨_, rfl⟩
  rw [← hR] at hF ⊢
  clear hR hcf hz hk hb jf hrd r1 q1
  go_enter Tryz.func137, Tryz.ntmps137
  go_wp2_with fail
  refine hF.mono ?_
  rintro e w3 ⟨rfl, S3, r3, m3⟩
  have q3 := q2.extX m3 (fun k hk => r3.lt hk)
  obtain ⟨⟨k0, k1, k2, k3, k4, k5, k6, k7, k8, k9, k10⟩, kf⟩ := Blk.c11 q3.blk
  unfold gp at k9
  obtain ⟨A3, c3, b0, hb3, hb4, hb5, hkS⟩ := r3.bodyV
  have i8 := kf 8
  have i0 := kf 0
  have hn1 : ¬ gk = g := fun e => q3.d2 (by rw [← e]; exact hkS)
  have hn2 : ¬ g = gk := fun e => hn1 e.symm
  have q4 := (q3.set_ 8 (.slice A3 R.body.length c3)).cells (xp_vb _ _ _ _ _ _ _ _ _)
  have r4 := q3.farR r3 8 (.slice A3 R.body.length c3)
  clear hF kf m3 r2 q2 q j0 j1 j2 j3 j4 j5 j6 j7 j8 j9 j10 i10
  by_cases hst : R.status = 0
  · have e2 : (R.status != 0) = false := by rw [hst]; rfl
    cases hw : R.whole
    · have HR := Lib.hid (show pChunk p R 1 = { p with chunks := some R, fed := p.fed + 1, phase := 2 } by simp [pChunk, hst, hw])
      have HW := Lib.hid hw
      clear hst hw
      go_wp2
      go_end0
      rw [HR.out]
      refine ⟨rfl, _, .chunk gh Sh vl (.slice A3 R.body.length c3) gk S3 R { p with chunks := some R, fed := p.fed + 1, phase := 2 } rfl hs rfl ?_ r4, q4.m⟩
      rw [show decide (0 < p.fed + 1) = true by simp]
      exact q4.re
    · have HR := Lib.hid (show pChunk p R 1 = { p with chunks := some R, fed := p.fed + 1, phase := 3, body := R.body } by simp [pChunk, hst, hw])
      have q5 := (q4.set_ 0 (.int .i64 3)).cells (xp_ph _ _ _ _ _ _ _ _ _)
      have hfr : Fr (fun k => k = g) w3 ((w3.setCell ⟨g, 8, none⟩ (.slice A3 R.body.length c3)).setCell ⟨g, 0, none⟩ (.int .i64 3)) := Fr.setCell (S := fun k => k = g) (Fr.setCell (S := fun k => k = g) (Fr.refl _ w3) (p := ⟨g, 8, none⟩) (.inl rfl) _) (p := ⟨g, 0, none⟩) (.inl rfl) _
      have hr5 := (hb3.frm (Nat.le_refl _) hfr (fun h0 a ha e => q3.d2 (by rw [← e]; exact hb4 h0 a ha))).more hfr.size
      have HW := Lib.hid hw
      clear hst hw
      go_wp2
      go_end0
      rw [HR.out]
      exact ⟨rfl, _, .whole gh Sh vl _ _ (gp gk) true S3 { p with chunks := some R, fed := p.fed + 1, phase := 3, body := R.body } rfl hs q5.re hr5 hb4 hb5, q5.m⟩
  · have e2 : (R.status != 0) = true := by rw [bne_iff_ne]; exact hst
    have hB := xp_bad g _ R.status _ q4.blk ⟨_, rfl⟩ ⟨_, rfl⟩
    have HR := Lib.hid (show (pChunk p R 1).phase = 4 ∧ (pChunk p R 1).status = R.status by unfold pChunk; simp only; rw [if_pos hst, if_pos hst]; exact ⟨rfl, rfl⟩)
    clear hst
    go_wp2_with fail
    refine hB.mono ?_
    rintro e w5 ⟨rfl, rfl⟩
    go_wp2
    go_end0
    exact q4.bad HR.out.1 HR.out.2
end Go.Proofs.YtlambdccmfnloaaGreatDoor
namespace Go.Proofs.YtlambdccmfnloaaGreatDoor
open Go.RowKit
set_option maxRecDepth 100000
set_option maxHeartbeats 4000000

/-- Where a byte of the head is taken. -/
def AtHead (w : World) (g : Nat) (S : Nat → Prop) (p : PS) (wx : World) : Prop :=
  ∃ (gh : Nat) (Sh : Nat → Prop) (vl vb ck : Value) (y : How) (cm : Bool), X3 w S wx g (xpCells 1 0 (gp gh) vl y vb ck cm) gh Sh p.head (fun k => vl.ownBlock = some k) ∧ OB wx 0 vl p.line
theorem xp_fresh {w : World} {g : Nat} {cs : Array Value} (hb : Blk w g 90 cs) : X3 w (fun k => k = g) (w.alloc (.cells #[.slice none 0 0, .string ⟨#[]⟩, .int .i64 0, .string ⟨#[]⟩, .string ⟨#[]⟩, .string ⟨#[]⟩, .int .i64 0, .int .i64 0, .int .i64 0, .bool false, .bool false, .bool false, .bool false, .int .i64 0, .int .i64 0, .int .i64 0] 134)) g cs w.heap.size (FS w.heap.size (.slice none 0 0)) hs0 (fun _ => False) := by
  have hlt := hb.lt
  have hx := xhr_fresh w
  have hfs : ∀ k, FS w.heap.size (.slice none 0 0) k → w.heap.size ≤ k := fun k hk => by
    rcases hk with h | h
    · omega
    · simp [Value.ownBlock] at h
  refine ⟨hb.belowW (allocW (Below.refl _ _) _), hx, fun _ h => h.elim, fun h => ?_, fun h => h.elim, fun _ _ h => h.elim, ⟨(Fr.refl _ _).alloc _, fun k hk => ?_⟩⟩
  · have := hfs g h; omega
  · rcases hk with hk | hk | hk
    · exact .inl hk
    · exact .inr (hfs k hk)
    · exact hk.elim
theorem xp_idle (ch vl vb ck : Value) (y : How) (cm : Bool) (n : Nat) : (((xpCells 0 0 ch vl y vb ck cm).setIfInBounds 0 (.int .i64 1)).setIfInBounds 2 (.pointer (some ⟨n, 0, none⟩))).setIfInBounds 3 (.slice none 0 0) = xpCells 1 0 (gp n) (.slice none 0 0) y vb ck cm := by simp [xpCells, gp]
theorem xp_one_head (g : Nat) (S : Nat → Prop) (p : PS) (c : UInt8) (w : World) (h : XQ w g S p) (hp : p.phase ≤ 1) (hi : PInv p) :
    Calls Tryz.prog 87 #[.pointer (some ⟨g, 0, none⟩), .int .u8 (c.toNat : Int)] w (XQPost w g S (pHead p c)) := by
  obtain ⟨c0, -, -, -⟩ := h.top
  have h2 : ((p.phase : Int) == 2) = false := by rw [Bool.eq_false_iff]; intro h9; rw [beq_iff_eq] at h9; omega
  go_enter Tryz.func87, Tryz.ntmps87
  go_upto_if 21 with (fail)
  go_cut [] (fun wx => AtHead w g S p wx)
  case first =>
    cases h with
    | idle ch vl vb ck y cm p hp0 hs hb =>
      have hf := hi.fresh hp0
      subst hf
      obtain ⟨⟨j0, j1, j2, j3, -, -, -, -, -, -, -⟩, jf⟩ := Blk.c11 hb
      have hlt := hb.lt
      have i0 := jf 0
      have i2 := jf 2
      have i3 := jf 3
      clear c0 jf
      have b3 := ((hb.set_ 0 (.int .i64 1)).set_ 2 (.pointer (some ⟨w.heap.size, 0, none⟩))).set_ 3 (.slice none 0 0)
      rw [xp_idle] at b3
      have m3 : Moved (fun k => k = g) (fun k => k = g) w (((w.setCell ⟨g, 0, none⟩ (.int .i64 1)).setCell ⟨g, 2, none⟩ (.pointer (some ⟨w.heap.size, 0, none⟩))).setCell ⟨g, 3, none⟩ (.slice none 0 0)) := (((Moved.refl _ _).set_ (S := fun k => k = g) (p := ⟨g, 0, none⟩) rfl _).set_ (p := ⟨g, 2, none⟩) rfl _).set_ (p := ⟨g, 3, none⟩) rfl _
      have hz : (((w.setCell ⟨g, 0, none⟩ (.int .i64 1)).setCell ⟨g, 2, none⟩ (.pointer (some ⟨w.heap.size, 0, none⟩))).setCell ⟨g, 3, none⟩ (.slice none 0 0)).heap.size = w.heap.size := by simp
      have q := xp_fresh b3
      rw [hz] at q
      have HZ := Lib.hid hz
      clear hz
      go_wp2_with fail
      go_meet
      case rel =>
        have hE : (fun _ : Nat => False) = (fun k => (Value.slice none 0 0).ownBlock = some k) := by funext k; simp [Value.ownBlock]
        rw [hE] at q
        exact ⟨_, _, _, _, _, _, _, ⟨q.blk, q.hh, q.lx, q.d1, q.d2, q.d3, m3.trans q.m⟩, OB.nil _ _⟩
    | head gh Sh vl vb ck y cm p hp1 hs x ho =>
      rw [hp1] at c0
      clear h2
      go_wp2_with fail
      go_meet
      case rel => exact ⟨_, _, _, _, _, _, _, x, ho⟩
    | len gh Sh vl vb ck p hp0 hs hc x ho => omega
    | chunk gh Sh vl vb gk Sk r p hp0 hs hc x hr => omega
    | whole gh Sh vl A c ck cm Sx p hp0 hs x hr ha hc => omega
    | bad ch vl vb ck y cm p hp0 hb => omega
  case rest =>
    obtain ⟨gh, Sh, vl, vb, ck, y, cm, x, ho⟩ := hcut
    obtain ⟨A, cp, rfl, hcp1, hcp2, hrd⟩ := ho.form
    obtain ⟨n1, n2, hgw, hghw⟩ := x.n1
    obtain ⟨⟨j0, j1, j2, j3, j4, j5, j6, j7, j8, j9, j10⟩, jf⟩ := Blk.c11 x.blk
    unfold gp at j2
    have i0 := jf 0
    have i1 := jf 1
    have i3 := jf 3
    have hlen := hi.line hp
    obtain ⟨a1, a2, a3, a4, hst⟩ := hi.early hp
    have A1 := Lib.hid a1
    have A2 := Lib.hid a2
    have A4 := Lib.hid a4
    clear jf a1 a2 a3 a4 c0 h2 h
    by_cases hc : c = 10
    · subst hc
      by_cases hl13 : p.line.getLast? = some 13
      · rcases snoc_cases p.line with h0 | ⟨P, z, hl⟩
        · rw [h0] at hl13; cases hl13
        · obtain rfl : z = 13 := by rw [hl] at hl13; simpa using hl13
          have hE : pHead p 10 = pEnd p (hLine p.head P) := by rw [pHead, if_pos rfl, if_pos hl13, hl, List.dropLast_concat]
          have hLL := hLine_len p.head P hi.hl
          have hn : p.line.length = P.length + 1 := by rw [hl]; simp
          obtain ⟨b, cap, hvl, -, -, -⟩ := Own.form ho (by omega)
          injection hvl with e1 _ e3
          subst e1 e3
          obtain ⟨hc1, hc2⟩ := Own.cellAt ho P.length (by omega)
          have hc3 : wc.cell? ⟨b, P.length, none⟩ = some (.int .u8 13) := by rw [hc1, hl]; simp
          have hrd2 := Rd.cutTo hrd (k := P.length) (by omega)
          rw [Nat.mul_one, show (p.line.map bv).take P.length = P.map bv by rw [hl]; simp] at hrd2
          obtain ⟨X, hX⟩ : ∃ X : ByteArray, X = ⟨P.toArray⟩ := ⟨_, rfl⟩
          have HX := Lib.hid (show X.data.toList = P by rw [hX])
          have hXs : X.size = P.length := by rw [hX]; exact (len_data _).symm
          have hXb : X.size ≤ 258 := by omega
          have hcv := run_str_rd (P := Tryz.prog) hrd2 cp 25 5 9 Tryz.underlying25 Tryz.underlying5 Tryz.underlying9
          rw [show sv P = .string X by rw [hX]] at hcv
          rw [hn] at j3 hcp1
          have hp0 : ((P.length : Int) + 1 == 0) = false := by rw [Bool.eq_false_iff]; intro h9; rw [beq_iff_eq] at h9; omega
          have x3 := ((x.set_ 3 (.slice none 0 0)).cells (xp_vl _ _ _ _ _ _ _ _ _)).drop
          have hF : (fun _ : Nat => False) = (fun k => (Value.slice none 0 0).ownBlock = some k) := by funext k; simp [Value.ownBlock]
          rw [hF] at x3
          have hC := xh_Line gh Sh p.head X _ x3.hh hi.hd (by omega)
          rw [HX.out] at hC
          have HE := Lib.hid hE
          obtain ⟨H, hH⟩ : ∃ H, H = hLine p.head P := ⟨_, rfl⟩
          rw [← hH] at hC hLL
          have HH := Lib.hid hH
          have HP := Lib.hid hl
          clear hE hX hrd2 hrd hc1 hXs hl hl13 hH ho hF
          go_wp2_with fail
          refine hC.mono ?_
          rintro e w4 ⟨rfl, S4, k4, m4⟩
          have x4 := x3.extH k4 m4
          obtain ⟨⟨k0, k1, k2, k3, k4', k5, k6, k7, k8, k9, k10⟩, kf⟩ := Blk.c11 x4.blk
          clear hC x3 m4 hcv j0 j1 j2 j3 j4 j5 j6 j7 j8 j9 j10 i0 i1 i3 hc2 hc3 kf x
          by_cases hs : H.status = 0
          · have e2 : (H.status != 0) = false := by rw [hs]; rfl
            cases hw : H.whole
            · have HR := Lib.hid (show pHead p 10 = { p with phase := 1, line := [], head := H } by rw [HE.out, ← HH.out, pEnd, if_neg (by simpa using hs), hw]; rfl)
              clear hs
              have HW := Lib.hid hw
              clear hw
              go_wp2
              go_end0
              rw [HR.out]
              exact XQPost.head x4 (p := { p with phase := 1, line := [], head := H }) rfl (OB.nil _ _) rfl hst
            · have HR := Lib.hid (show pHead p 10 = pFrames { p with phase := 1, line := [], head := H } by rw [HE.out, ← HH.out, pEnd, if_neg (by simpa using hs), hw]; rfl)
              have hB := xp_begins w S g gh _ vb ck y cm S4 _ { p with phase := 1, line := [], head := H } w4 x4 hLL A1.out A2.out A4.out hst
              clear hs
              have HW := Lib.hid hw
              clear hw
              go_wp2_with fail
              refine hB.mono ?_
              intro e w5 hq
              obtain ⟨rfl, hq2⟩ := hq
              go_wp2
              go_end0
              rw [HR.out]
              exact ⟨rfl, hq2⟩
          · have e2 : (H.status != 0) = true := by rw [bne_iff_ne]; exact hs
            have HR := Lib.hid (show pHead p 10 = { p with phase := 4, line := [], head := H, status := H.status } by rw [HE.out, ← HH.out, pEnd, if_pos hs])
            have hB := xp_bad g _ H.status _ x4.blk ⟨_, rfl⟩ ⟨_, rfl⟩
            clear hs
            go_wp2_with fail
            refine hB.mono ?_
            rintro e w5 ⟨rfl, rfl⟩
            go_wp2
            go_end0
            rw [HR.out]
            exact x4.bad rfl rfl
      · have HR := Lib.hid (show pHead p 10 = { p with phase := 4, status := 400 } by rw [pHead, if_pos rfl, if_neg hl13])
        have hB := xp_bad g _ 400 _ x.blk ⟨_, rfl⟩ ⟨_, rfl⟩
        rcases snoc_cases p.line with hl | ⟨P, z, hl⟩
        · rw [hl] at j3
          clear hl hl13
          go_wp2_with fail
          refine hB.mono ?_
          rintro e w5 ⟨rfl, rfl⟩
          go_wp2
          go_end0
          rw [HR.out]
          exact x.bad rfl rfl
        · have hz : z ≠ 13 := by rintro rfl; exact hl13 (by rw [hl]; simp)
          have hn : p.line.length = P.length + 1 := by rw [hl]; simp
          obtain ⟨b, cap, hvl, -, -, -⟩ := Own.form ho (by omega)
          injection hvl with e1 _ e3
          subst e1 e3
          obtain ⟨hc1, hc2⟩ := Own.cellAt ho P.length (by omega)
          have hc3 : wc.cell? ⟨b, P.length, none⟩ = some (.int .u8 (z.toNat : Int)) := by rw [hc1, hl]; simp
          rw [hn] at j3 hcp1
          have hz2 := u8ne hz (n := 13) rfl
          have hz3 : ((z.toNat : Int) != 13) = true := by rw [bne, hz2]; rfl
          have hp0 : ((P.length : Int) + 1 == 0) = false := by rw [Bool.eq_false_iff]; intro h9; rw [beq_iff_eq] at h9; omega
          clear hc1 hl13 hl hz
          go_wp2_with fail
          refine hB.mono ?_
          rintro e w5 ⟨rfl, rfl⟩
          go_wp2
          go_end0
          rw [HR.out]
          exact x.bad rfl rfl
    · have hE : pHead p c = if 256 < p.line.length + (if c = 13 then 0 else 1) then { p with phase := 4, line := p.line ++ [c], status := if p.head.begun then 431 else 414 } else { p with phase := 1, line := p.line ++ [c] } := by rw [pHead, if_neg hc]
      have hc1 := u8ne hc (n := 10) rfl
      by_cases h13 : c = 13
      · have hc2 : ((c.toNat : Int) == 13) = true := by rw [h13]; rfl
        rw [if_pos h13] at hE
        clear h13 hc
        by_cases hlim : 256 < p.line.length
        · have hl2 : ¬ (p.line.length ≤ 256) := by omega
          have HR := Lib.hid (hE.trans (if_pos (by omega)))
          clear hE
          clear hlim
          cases hbg : p.head.begun
          · have HG := Lib.hid hbg
            go_wp2_with (at_builtin; refine wp_app1 rfl _ _ rfl 0 (.slice A p.line.length cp) _ rfl ho _ rfl _ rfl c rfl (by omega) (Nat.zero_le _) ?_; intro v' w2 ho2 hx; have x2 := x.extX (moved_ext hx) (fun k hk => Own.lt2 ho2 hk); obtain ⟨A3, c3, hv3, hc31, hc32, hc33⟩ := ho2.form; rw [show (p.line ++ [c]).length = p.line.length + 1 by simp] at hv3; subst hv3; obtain ⟨-, -, -, -, -, f11⟩ := x2.hh.how; obtain ⟨⟨m0, m1, m2, m3, m4, m5, m6, m7, m8, m9, m10⟩, mf⟩ := Blk.c11 x2.blk; unfold gp at m2; have mf0 := mf 0; have mf1 := mf 1; have mf3 := mf 3; rw [HG.out] at f11; clear hx mf)
            have x3 := (x2.set_ 3 (.slice A3 (p.line.length + 1) c3)).cells (xp_vl _ _ _ _ _ _ _ _ _)
            refine (xp_bad g _ 414 _ x3.blk ⟨_, rfl⟩ ⟨_, rfl⟩).mono ?_
            rintro e w5 ⟨rfl, rfl⟩
            go_wp2
            go_end0
            rw [HR.out]
            exact x3.bad rfl (by rw [HG.out]; rfl)
          · have HG := Lib.hid hbg
            go_wp2_with (at_builtin; refine wp_app1 rfl _ _ rfl 0 (.slice A p.line.length cp) _ rfl ho _ rfl _ rfl c rfl (by omega) (Nat.zero_le _) ?_; intro v' w2 ho2 hx; have x2 := x.extX (moved_ext hx) (fun k hk => Own.lt2 ho2 hk); obtain ⟨A3, c3, hv3, hc31, hc32, hc33⟩ := ho2.form; rw [show (p.line ++ [c]).length = p.line.length + 1 by simp] at hv3; subst hv3; obtain ⟨-, -, -, -, -, f11⟩ := x2.hh.how; obtain ⟨⟨m0, m1, m2, m3, m4, m5, m6, m7, m8, m9, m10⟩, mf⟩ := Blk.c11 x2.blk; unfold gp at m2; have mf0 := mf 0; have mf1 := mf 1; have mf3 := mf 3; rw [HG.out] at f11; clear hx mf)
            have x3 := (x2.set_ 3 (.slice A3 (p.line.length + 1) c3)).cells (xp_vl _ _ _ _ _ _ _ _ _)
            refine (xp_bad g _ 431 _ x3.blk ⟨_, rfl⟩ ⟨_, rfl⟩).mono ?_
            rintro e w5 ⟨rfl, rfl⟩
            go_wp2
            go_end0
            rw [HR.out]
            exact x3.bad rfl (by rw [HG.out]; rfl)
        · have hl2 : p.line.length ≤ 256 := by omega
          have HR := Lib.hid (hE.trans (if_neg (by omega)))
          clear hE
          clear hlim
          go_wp2_with (at_builtin; refine wp_app1 rfl _ _ rfl 0 (.slice A p.line.length cp) _ rfl ho _ rfl _ rfl c rfl (by omega) (Nat.zero_le _) ?_; intro v' w2 ho2 hx; have x2 := x.extX (moved_ext hx) (fun k hk => Own.lt2 ho2 hk); obtain ⟨A3, c3, hv3, hc31, hc32, hc33⟩ := ho2.form; rw [show (p.line ++ [c]).length = p.line.length + 1 by simp] at hv3; subst hv3; obtain ⟨-, -, -, -, -, f11⟩ := x2.hh.how; obtain ⟨⟨m0, m1, m2, m3, m4, m5, m6, m7, m8, m9, m10⟩, mf⟩ := Blk.c11 x2.blk; unfold gp at m2; have mf0 := mf 0; have mf1 := mf 1; have mf3 := mf 3; clear hx mf)
          go_end0
          rw [HR.out]
          exact XQPost.head ((x2.set_ 3 (.slice A3 (p.line.length + 1) c3)).cells (xp_vl _ _ _ _ _ _ _ _ _)) (p := { p with phase := 1, line := p.line ++ [c] }) rfl (x2.farX ho2 (fun k hk => hk) 3 _) rfl hst
      · have hc2 := u8ne h13 (n := 13) rfl
        rw [if_neg h13] at hE
        clear h13 hc
        by_cases hlim : 256 < p.line.length + 1
        · have hl2 : ¬ (p.line.length + 1 ≤ 256) := by omega
          have HR := Lib.hid (hE.trans (if_pos (by omega)))
          clear hE
          clear hlim
          cases hbg : p.head.begun
          · have HG := Lib.hid hbg
            go_wp2_with (at_builtin; refine wp_app1 rfl _ _ rfl 0 (.slice A p.line.length cp) _ rfl ho _ rfl _ rfl c rfl (by omega) (Nat.zero_le _) ?_; intro v' w2 ho2 hx; have x2 := x.extX (moved_ext hx) (fun k hk => Own.lt2 ho2 hk); obtain ⟨A3, c3, hv3, hc31, hc32, hc33⟩ := ho2.form; rw [show (p.line ++ [c]).length = p.line.length + 1 by simp] at hv3; subst hv3; obtain ⟨-, -, -, -, -, f11⟩ := x2.hh.how; obtain ⟨⟨m0, m1, m2, m3, m4, m5, m6, m7, m8, m9, m10⟩, mf⟩ := Blk.c11 x2.blk; unfold gp at m2; have mf0 := mf 0; have mf1 := mf 1; have mf3 := mf 3; rw [HG.out] at f11; clear hx mf)
            have x3 := (x2.set_ 3 (.slice A3 (p.line.length + 1) c3)).cells (xp_vl _ _ _ _ _ _ _ _ _)
            refine (xp_bad g _ 414 _ x3.blk ⟨_, rfl⟩ ⟨_, rfl⟩).mono ?_
            rintro e w5 ⟨rfl, rfl⟩
            go_wp2
            go_end0
            rw [HR.out]
            exact x3.bad rfl (by rw [HG.out]; rfl)
          · have HG := Lib.hid hbg
            go_wp2_with (at_builtin; refine wp_app1 rfl _ _ rfl 0 (.slice A p.line.length cp) _ rfl ho _ rfl _ rfl c rfl (by omega) (Nat.zero_le _) ?_; intro v' w2 ho2 hx; have x2 := x.extX (moved_ext hx) (fun k hk => Own.lt2 ho2 hk); obtain ⟨A3, c3, hv3, hc31, hc32, hc33⟩ := ho2.form; rw [show (p.line ++ [c]).length = p.line.length + 1 by simp] at hv3; subst hv3; obtain ⟨-, -, -, -, -, f11⟩ := x2.hh.how; obtain ⟨⟨m0, m1, m2, m3, m4, m5, m6, m7, m8, m9, m10⟩, mf⟩ := Blk.c11 x2.blk; unfold gp at m2; have mf0 := mf 0; have mf1 := mf 1; have mf3 := mf 3; rw [HG.out] at f11; clear hx mf)
            have x3 := (x2.set_ 3 (.slice A3 (p.line.length + 1) c3)).cells (xp_vl _ _ _ _ _ _ _ _ _)
            refine (xp_bad g _ 431 _ x3.blk ⟨_, rfl⟩ ⟨_, rfl⟩).mono ?_
            rintro e w5 ⟨rfl, rfl⟩
            go_wp2
            go_end0
            rw [HR.out]
            exact x3.bad rfl (by rw [HG.out]; rfl)
        · have hl2 : p.line.length + 1 ≤ 256 := by omega
          have HR := Lib.hid (hE.trans (if_neg (by omega)))
          clear hE
          clear hlim
          go_wp2_with (at_builtin; refine wp_app1 rfl _ _ rfl 0 (.slice A p.line.length cp) _ rfl ho _ rfl _ rfl c rfl (by omega) (Nat.zero_le _) ?_; intro v' w2 ho2 hx; have x2 := x.extX (moved_ext hx) (fun k hk => Own.lt2 ho2 hk); obtain ⟨A3, c3, hv3, hc31, hc32, hc33⟩ := ho2.form; rw [show (p.line ++ [c]).length = p.line.length + 1 by simp] at hv3; subst hv3; obtain ⟨-, -, -, -, -, f11⟩ := x2.hh.how; obtain ⟨⟨m0, m1, m2, m3, m4, m5, m6, m7, m8, m9, m10⟩, mf⟩ := Blk.c11 x2.blk; unfold gp at m2; have mf0 := mf 0; have mf1 := mf 1; have mf3 := mf 3; clear hx mf)
          go_end0
          rw [HR.out]
          exact XQPost.head ((x2.set_ 3 (.slice A3 (p.line.length + 1) c3)).cells (xp_vl _ _ _ _ _ _ _ _ _)) (p := { p with phase := 1, line := p.line ++ [c] }) rfl (x2.farX ho2 (fun k hk => hk) 3 _) rfl hst
end Go.Proofs.YtlambdccmfnloaaGreatDoor
namespace Go.Proofs.YtlambdccmfnloaaGreatDoor
open Go.RowKit
set_option maxRecDepth 100000
set_option maxHeartbeats 4000000

theorem xp_one_body (g : Nat) (S : Nat → Prop) (p : PS) (c : UInt8) (w : World) (h : XQ w g S p) (hp : p.phase = 2) (hi : PInv p) (hb : PB p) :
    Calls Tryz.prog 137 #[.pointer (some ⟨g, 0, none⟩), .int .u8 (c.toNat : Int)] w (XQPost w g S (pByte p c)) := by
  cases h with
  | idle ch vl vb ck y cm p hp0 hs hb => omega
  | head gh Sh vl vb ck y cm p hp1 hs x ho => omega
  | len gh Sh vl vb ck p hp0 hs hc x ho =>
    rw [show pByte p c = pLen p [c] by rw [pByte, if_pos hp, pBody, hc]]
    exact xp_more_len g gh Sh vl vb ck p c w hp hs hc x ho hi hb
  | chunk gh Sh vl vb gk Sk r p hp0 hs hc x hr =>
    rw [show pByte p c = pChunk p (cByte r c) 1 by rw [pByte, if_pos hp, pBody, hc]]
    exact xp_more_chunk g gh Sh vl vb gk Sk r p c w hp hs hc x hr hi hb
  | whole gh Sh vl A c ck cm Sx p hp0 hs x hr ha hc => omega
  | bad ch vl vb ck y cm p hp0 hb => omega
theorem xp_one (g : Nat) (S : Nat → Prop) (p : PS) (c : UInt8) (w : World) (h : XQ w g S p) (hp : p.phase ≤ 2) (hi : PInv p) (hb : PB p) :
    Calls Tryz.prog 87 #[.pointer (some ⟨g, 0, none⟩), .int .u8 (c.toNat : Int)] w (XQPost w g S (pByte p c)) := by
  by_cases h2 : p.phase = 2
  · have hM := xp_one_body g S p c w h h2 hi hb
    obtain ⟨c0, -, -, -⟩ := h.top
    rw [h2] at c0
    clear h2 h
    go_enter Tryz.func87, Tryz.ntmps87
    go_wp2_with fail
    refine hM.mono ?_
    intro e w5 hq
    obtain ⟨rfl, hq2⟩ := hq
    go_wp2
    go_end0
    exact ⟨rfl, hq2⟩
  · rw [show pByte p c = pHead p c by rw [pByte, if_neg h2]]
    exact xp_one_head g S p c w h (by omega) hi
def XFeedP (w : World) (g : Nat) (S : Nat → Prop) (q : Nat × PS) (e : Ending) (w' : World) : Prop :=
  e = .returned (.int .i64 (q.1 : Int)) ∧ ∃ S', XQ w' g S' q.2 ∧ Moved S S' w w'
theorem xp_Feed (g : Nat) (S : Nat → Prop) (p : PS) (A : Option Addr) (n cp : Nat) (ps : List Bs) (w : World) (q : XQ w g S p) (hi : PInv p) (hb : PB p) (hA : RdP w S A n ps) (hn : ps.flatten.length ≤ 1000000) (hnl : n ≤ 1000000) :
    Calls Tryz.prog 46 #[.pointer (some ⟨g, 0, none⟩), .slice A n cp] w (XFeedP w g S (pFeed p ps.flatten)) := by
  have hl : ps.length = n := by obtain ⟨vs, h1, h2, h3⟩ := hA; exact h2
  go_enter Tryz.func46, Tryz.ntmps46
  go_wp2
  go_loopw [5, 6] (fun v i wr => ∃ (k N : Nat) (p1 : PS) (S1 : Nat → Prop), k ≤ n ∧ i = .int .i64 k ∧ v = .int .i64 (N : Int) ∧ XQ wr g S1 p1 ∧ PInv p1 ∧ PB p1 ∧ Moved S S1 w wr ∧ Hid (pFeed p (ps.take k).flatten = (N, p1))) (fun _ i _ => n - (intOf i).toNat)
  case atStart => exact ⟨0, 0, p, S, Nat.zero_le _, rfl, rfl, q, hi, hb, Moved.refl _ _, Lib.hid rfl⟩
  case round =>
    obtain ⟨k, N, p1, S1, hk, rfl, rfl, q1, hI1, hB1, hM1, H⟩ := hrel
    by_cases hlt : k < n
    · obtain ⟨pk, hp, -⟩ : ∃ pk, ps[k]? = some pk ∧ True := ⟨ps[k], by simp [hl, hlt], trivial⟩
      have hT := join_le ps (k + 1)
      have hJ := join_take ps k pk hp
      have HJ := Lib.hid (show pFeed p (ps.take (k + 1)).flatten = (N + (pFeed p1 (pk.drop 0)).1, (pFeed p1 (pk.drop 0)).2) by
        rw [hJ, pFeed_app, H.out]; rfl)
      have HN := Lib.hid (show ∀ m, m ≤ pk.length → N + m ≤ 1000000 from fun m hm => by
        have h1 := pFeed_le (ps.take k).flatten p
        rw [H.out] at h1
        simp only at h1
        rw [hJ, List.length_append] at hT
        omega)
      have HP := Lib.hid hp
      have hAr := hA.moved hM1
      obtain ⟨b, o, Ai, ci, rfl, hcell, hci, hr⟩ := hAr.at_ hp
      have hpk : pk.length ≤ 1000000 := by have := HN.out pk.length (Nat.le_refl _); omega
      clear hJ hp H hT
      go_wp2
      go_loopw [5, 7] (fun v j wr => ∃ (m N2 : Nat) (p2 : PS) (S2 : Nat → Prop), m ≤ pk.length ∧ j = .int .i64 m ∧ v = .int .i64 (N2 : Int) ∧ XQ wr g S2 p2 ∧ PInv p2 ∧ PB p2 ∧ Moved S S2 w wr ∧ N2 ≤ N + m ∧ Hid (pFeed p (ps.take (k + 1)).flatten = (N2 + (pFeed p2 (pk.drop m)).1, (pFeed p2 (pk.drop m)).2))) (fun _ j _ => pk.length - (intOf j).toNat)
      case atStart => exact ⟨0, N, p1, S1, Nat.zero_le _, rfl, rfl, q1, hI1, hB1, hM1, Nat.le_refl _, HJ⟩
      case round =>
        obtain ⟨m, N2, p2, S2, hm, rfl, rfl, q2, hI2, hB2, hM2, hN2, HJ2⟩ := hrel
        have hNN := HN.out m hm
        obtain ⟨b', o', Aj, cj, e', hcell2, hcj, hr2⟩ := (hA.moved hM2).at_ HP.out
        injection e' with e'
        injection e' with e1 e2
        subst e1 e2
        clear hr hcell hAr
        by_cases hmlt : m < pk.length
        · obtain ⟨c0, -, -, -⟩ := q2.top
          by_cases h3 : 3 ≤ p2.phase
          · have h3' : (3 : Int) ≤ (p2.phase : Int) := by omega
            have HF := Lib.hid (show pFeed p ps.flatten = (N2, p2) by
              have h9 : pFeed p (ps.take (k + 1)).flatten = (N2, p2) := by rw [HJ2.out, pFeed_off _ _ h3]; rfl
              conv => lhs; rw [← List.take_append_drop (k + 1) ps, List.flatten_append]
              rw [pFeed_app, h9]
              simp only
              rw [pFeed_off _ _ h3]; rfl)
            clear HJ2 h3
            go_wp2
            go_ret
            rw [HF.out]
            exact ⟨rfl, S2, q2, hM2⟩
          · have h3' : ¬ (3 : Int) ≤ (p2.phase : Int) := by omega
            obtain ⟨x, hx, hdx⟩ := drop_list pk m hmlt
            obtain ⟨bb, oo, rfl, hbb, hxx⟩ := hr2.1.at_ (by omega)
            have cx := hxx m (bv x) (map_get bv _ _ _ hx)
            have hC := xp_one g S2 p2 x wr q2 (by omega) hI2 hB2
            have hI3 := pByte_inv p2 x hI2 (by omega)
            have hB3 := pByte_pb p2 x hI2 hB2 (by omega)
            have HF := Lib.hid (show pFeed p (ps.take (k + 1)).flatten = (N2 + 1 + (pFeed (pByte p2 x) (pk.drop (m + 1))).1, (pFeed (pByte p2 x) (pk.drop (m + 1))).2) by
              rw [HJ2.out, hdx, pFeed_on p2 x _ (by omega)]
              exact Prod.ext (by simp only; omega) rfl)
            have hcp : (m : Int) < (cj : Int) := by omega
            clear HJ2 h3 hx hdx hxx hr2
            go_wp2_with fail
            refine hC.mono ?_
            rintro e w3 ⟨rfl, S3, q3, hM3⟩
            clear hC c0 cx hcell2
            go_wp2
            go_roundw
            case rel => exact ⟨m + 1, N2 + 1, pByte p2 x, S3, by omega, by go_num, by go_num, q3, hI3, hB3, hM2.trans hM3, by omega, HF⟩
            case measure => simp [intOf]; omega
        · have HF := Lib.hid (show pFeed p (ps.take (k + 1)).flatten = (N2, p2) by
            rw [HJ2.out, List.drop_of_length_le (by omega), pFeed_nil]; rfl)
          clear HJ2
          go_wp2
          go_roundw
          case rel => exact ⟨k + 1, N2, p2, S2, by omega, by go_num, rfl, q2, hI2, hB2, hM2, HF⟩
          case measure => simp [intOf]; omega
    · have HF := Lib.hid (show pFeed p ps.flatten = (N, p1) by rw [← H.out, List.take_of_length_le (by omega)])
      clear H
      go_wp2
      go_ret
      rw [HF.out]
      exact ⟨rfl, S1, q1, hM1⟩
end Go.Proofs.YtlambdccmfnloaaGreatDoor
namespace Go.Proofs.YtlambdccmfnloaaGreatDoor
open Go.RowKit
set_option maxRecDepth 100000
set_option maxHeartbeats 4000000

theorem xp_Take_not (g : Nat) (S : Nat → Prop) (p : PS) (w : World) (q : XQ w g S p) (hp : p.phase ≠ 3) :
    Calls Tryz.prog 47 #[.pointer (some ⟨g, 0, none⟩)] w fun e w' => e = .returned (.tuple #[req0, .int .i64 4]) ∧ Below w.heap.size w w' := by
  obtain ⟨c0', -, -, -⟩ := q.top
  have hlt : g < w.heap.size := q.lt q.top.2.2.2
  have c0 : (w.alloc (.cells #[.string ⟨#[]⟩, .int .i64 0, .string ⟨#[]⟩, .string ⟨#[]⟩, .string ⟨#[]⟩, .int .i64 0, .slice none 0 0, .slice none 0 0, .bool false, .bool false] 27)).cell? ⟨g, 0, none⟩ = some (.int .i64 (p.phase : Int)) := ((allocW (Below.refl w.heap.size w) _).cell (p := ⟨g, 0, none⟩) hlt).trans c0'
  have h3 : ((p.phase : Int) != 3) = true := by rw [bne_iff_ne]; omega
  clear q hp c0'
  go_enter Tryz.func47, Tryz.ntmps47
  go_wp2
  refine bodyPost_ret (v := .tuple #[req0, .int .i64 4]) (by simp [results, Tryz.results47, go_sem, sv, tgt0]) rfl ⟨rfl, allocW (Below.refl _ _) _⟩
theorem ownE0 {w : World} {g base size : Nat} {t : TypeId} (h : Blk w g t #[]) (hb : base ≤ g) : Own w base t size (.slice (some ⟨g, 0, none⟩) 0 0) 0 [] :=
  ⟨by simp, .inr ⟨g, 0, #[], (0, 0), rfl, hb, h, .inl (Nat.le_refl _), Nat.le_refl _, by unfold maxLen; omega, by simp, by simp⟩⟩
theorem l1 (W : World) (t : TypeId) (size : Nat) : Own (W.alloc (.cells #[] t)).drew W.heap.size t size (.slice (some ⟨W.heap.size, 0, none⟩) 0 0) 0 [] :=
  ownE0 (Blk.drew (Blk.new' _ _ rfl _ _)) (Nat.le_refl _)
theorem l2 (W : World) (o : Obj) (t : TypeId) (size : Nat) : Own ((W.alloc o).alloc (.cells #[] t)).drew W.heap.size t size (.slice (some ⟨W.heap.size + 1, 0, none⟩) 0 0) 0 [] :=
  ownE0 (Blk.drew (Blk.new' _ _ (by simp) _ _)) (Nat.le_succ _)
theorem l3 (W : World) (o : Obj) (t : TypeId) (size : Nat) : Own ((W.alloc (.cells #[] t)).alloc o).drew W.heap.size t size (.slice (some ⟨W.heap.size, 0, none⟩) 0 0) 0 [] :=
  ownE0 (Blk.drew (Blk.alloc (Blk.new' _ _ rfl _ _) _)) (Nat.le_refl _)
theorem l4 {B : Nat} {w : World} (t : TypeId) (size : Nat) (h : B ≤ w.heap.size) : Own (w.alloc (.cells #[] t)) B t size (.slice (some ⟨w.heap.size, 0, none⟩) 0 0) 0 [] :=
  ownE0 (Blk.new' _ _ rfl _ _) h
theorem l5 {W w : World} {v : Value} {o : Obj} (t : TypeId) (size : Nat) (h : Ext ((W.alloc o).alloc (.cells #[] t)).drew w (.slice (some ⟨W.heap.size, 0, none⟩) 0 0) v) : Own w W.heap.size t size (.slice (some ⟨W.heap.size + 1, 0, none⟩) 0 0) 0 [] :=
  ownE0 (Blk.fr (Blk.drew (Blk.new' _ _ (by simp) _ _)) h.fr (by simp [Value.ownBlock])) (Nat.le_succ _)
theorem l6 {W w : World} {v : Value} {o : Obj} (t : TypeId) (size : Nat) (h : Ext ((W.alloc (.cells #[] t)).alloc o).drew w (.slice (some ⟨W.heap.size + 1, 0, none⟩) 0 0) v) : Own w W.heap.size t size (.slice (some ⟨W.heap.size, 0, none⟩) 0 0) 0 [] :=
  ownE0 (Blk.fr (Blk.drew (Blk.alloc (Blk.new' _ _ rfl _ _) _)) h.fr (by simp [Value.ownBlock])) (Nat.le_refl _)
theorem m1F (W : World) : OF (W.alloc (.cells #[] 72)).drew W.heap.size (.slice (some ⟨W.heap.size, 0, none⟩) 0 0) [] := l1 W 72 2
theorem m2F (W : World) (o : Obj) : OF ((W.alloc o).alloc (.cells #[] 72)).drew W.heap.size (.slice (some ⟨W.heap.size + 1, 0, none⟩) 0 0) [] := l2 W o 72 2
theorem m3F (W : World) (o : Obj) : OF ((W.alloc (.cells #[] 72)).alloc o).drew W.heap.size (.slice (some ⟨W.heap.size, 0, none⟩) 0 0) [] := l3 W o 72 2
theorem m4F {B : Nat} {w : World} (h : B ≤ w.heap.size) : OF (w.alloc (.cells #[] 72)) B (.slice (some ⟨w.heap.size, 0, none⟩) 0 0) [] := l4 72 2 h
theorem m5F {W w : World} {v : Value} {o : Obj} (h : Ext ((W.alloc o).alloc (.cells #[] 72)).drew w (.slice (some ⟨W.heap.size, 0, none⟩) 0 0) v) : OF w W.heap.size (.slice (some ⟨W.heap.size + 1, 0, none⟩) 0 0) [] := l5 72 2 h
theorem m6F {W w : World} {v : Value} {o : Obj} (h : Ext ((W.alloc (.cells #[] 72)).alloc o).drew w (.slice (some ⟨W.heap.size + 1, 0, none⟩) 0 0) v) : OF w W.heap.size (.slice (some ⟨W.heap.size, 0, none⟩) 0 0) [] := l6 72 2 h
theorem m1B (W : World) : OB (W.alloc (.cells #[] 5)).drew W.heap.size (.slice (some ⟨W.heap.size, 0, none⟩) 0 0) [] := l1 W 5 1
theorem m2B (W : World) (o : Obj) : OB ((W.alloc o).alloc (.cells #[] 5)).drew W.heap.size (.slice (some ⟨W.heap.size + 1, 0, none⟩) 0 0) [] := l2 W o 5 1
theorem m3B (W : World) (o : Obj) : OB ((W.alloc (.cells #[] 5)).alloc o).drew W.heap.size (.slice (some ⟨W.heap.size, 0, none⟩) 0 0) [] := l3 W o 5 1
theorem m4B {B : Nat} {w : World} (h : B ≤ w.heap.size) : OB (w.alloc (.cells #[] 5)) B (.slice (some ⟨w.heap.size, 0, none⟩) 0 0) [] := l4 5 1 h
theorem m5B {W w : World} {v : Value} {o : Obj} (h : Ext ((W.alloc o).alloc (.cells #[] 5)).drew w (.slice (some ⟨W.heap.size, 0, none⟩) 0 0) v) : OB w W.heap.size (.slice (some ⟨W.heap.size + 1, 0, none⟩) 0 0) [] := l5 5 1 h
theorem m6B {W w : World} {v : Value} {o : Obj} (h : Ext ((W.alloc (.cells #[] 5)).alloc o).drew w (.slice (some ⟨W.heap.size + 1, 0, none⟩) 0 0) v) : OB w W.heap.size (.slice (some ⟨W.heap.size, 0, none⟩) 0 0) [] := l6 5 1 h
theorem ext_lit {w w' : World} {g B : Nat} {v' : Value} (h : Ext w w' (.slice (some ⟨g, 0, none⟩) 0 0) v') (hB : B ≤ g) (hs : B ≤ w.heap.size) : Below B w w' :=
  h.fr.toBelow hs fun i hi => by
    have h9 : some g = some i := hi
    injection h9 with h9
    omega
theorem own_ne {wc wF : World} {a b : Nat} {v : Value} (h : Ext wc wF (.slice (some ⟨a, 0, none⟩) 0 0) v) (hab : a ≠ b) (hb : b < wc.heap.size) : ∀ k, v.ownBlock = some k → ¬ (Value.slice (some ⟨b, 0, none⟩) 0 0).ownBlock = some k := by
  intro k hk he
  have h1 : some b = some k := he
  injection h1 with h1
  rcases h.own k hk with h2 | h2
  · have h3 : some a = some k := h2
    injection h3 with h3
    omega
  · omega
theorem XHR.parts15 {w : World} {gx : Nat} {X : Nat → Prop} {h : HS} (k : XHR w gx X h) : ∃ A c bb, Blk w gx 134 (xhCells h bb (.slice A h.flds.length c)) ∧ Rd w w.heap.size 2 A h.flds.length (fcells h.flds) := by
  obtain ⟨v, bb, rfl, k, -⟩ := k
  obtain ⟨A, c, rfl, -, -, hr⟩ := OF.form k.own
  exact ⟨A, c, bb, k.blk, hr⟩
/-- What Take reads. -/
abbrev XTS (g gh : Nat) (A : Option Addr) (n c : Nat) (AB : Option Addr) (nb cb : Nat) (h : HS) (w : World) : Prop :=
  w.cell? ⟨gh, 0, none⟩ = some (.slice A n c) ∧ w.cell? ⟨gh, 1, none⟩ = some (sv h.method) ∧ w.cell? ⟨gh, 2, none⟩ = some (.int .i64 h.tgt.form) ∧ w.cell? ⟨gh, 3, none⟩ = some (sv h.tgt.host) ∧ w.cell? ⟨gh, 4, none⟩ = some (sv h.tgt.path) ∧ w.cell? ⟨gh, 5, none⟩ = some (sv h.tgt.query) ∧ w.cell? ⟨gh, 6, none⟩ = some (.int .i64 h.minor) ∧ w.cell? ⟨g, 6, none⟩ = some (.bool h.how.close) ∧ w.cell? ⟨g, 7, none⟩ = some (.bool h.how.expect) ∧ w.cell? ⟨g, 8, none⟩ = some (.slice AB nb cb)
theorem XTS.below {g gh : Nat} {A : Option Addr} {n c : Nat} {AB : Option Addr} {nb cb : Nat} {h : HS} {w w' : World} (k : XTS g gh A n c AB nb cb h w) (L : Below w.heap.size w w') (h1 : g < w.heap.size) (h2 : gh < w.heap.size) : XTS g gh A n c AB nb cb h w' := by
  obtain ⟨a0, a1, a2, a3, a4, a5, a6, a7, a8, a9⟩ := k
  exact ⟨(L.cell (p := ⟨gh, 0, none⟩) h2).trans a0, (L.cell (p := ⟨gh, 1, none⟩) h2).trans a1, (L.cell (p := ⟨gh, 2, none⟩) h2).trans a2, (L.cell (p := ⟨gh, 3, none⟩) h2).trans a3, (L.cell (p := ⟨gh, 4, none⟩) h2).trans a4, (L.cell (p := ⟨gh, 5, none⟩) h2).trans a5, (L.cell (p := ⟨gh, 6, none⟩) h2).trans a6, (L.cell (p := ⟨g, 6, none⟩) h1).trans a7, (L.cell (p := ⟨g, 7, none⟩) h1).trans a8, (L.cell (p := ⟨g, 8, none⟩) h1).trans a9⟩
theorem XTS.alloc15 {g gh : Nat} {A : Option Addr} {n c : Nat} {AB : Option Addr} {nb cb : Nat} {h : HS} {w : World} (k : XTS g gh A n c AB nb cb h w) (o : Obj) (h1 : g < w.heap.size) (h2 : gh < w.heap.size) : XTS g gh A n c AB nb cb h (w.alloc o) :=
  k.below (allocW (Below.refl _ _) o) h1 h2
theorem XTS.fr {g gh : Nat} {A : Option Addr} {n c : Nat} {AB : Option Addr} {nb cb : Nat} {h : HS} {w w' : World} {T : Nat → Prop} (k : XTS g gh A n c AB nb cb h w) (L : Fr T w w') (t1 : ¬ T g) (t2 : ¬ T gh) (h1 : g < w.heap.size) (h2 : gh < w.heap.size) : XTS g gh A n c AB nb cb h w' := by
  obtain ⟨a0, a1, a2, a3, a4, a5, a6, a7, a8, a9⟩ := k
  exact ⟨(L.cell (p := ⟨gh, 0, none⟩) h2 t2).trans a0, (L.cell (p := ⟨gh, 1, none⟩) h2 t2).trans a1, (L.cell (p := ⟨gh, 2, none⟩) h2 t2).trans a2, (L.cell (p := ⟨gh, 3, none⟩) h2 t2).trans a3, (L.cell (p := ⟨gh, 4, none⟩) h2 t2).trans a4, (L.cell (p := ⟨gh, 5, none⟩) h2 t2).trans a5, (L.cell (p := ⟨gh, 6, none⟩) h2 t2).trans a6, (L.cell (p := ⟨g, 6, none⟩) h1 t1).trans a7, (L.cell (p := ⟨g, 7, none⟩) h1 t1).trans a8, (L.cell (p := ⟨g, 8, none⟩) h1 t1).trans a9⟩
theorem XTS.set15 {r g gh : Nat} {A : Option Addr} {n c : Nat} {AB : Option Addr} {nb cb : Nat} {h : HS} {w : World} (k : XTS g gh A n c AB nb cb h w) (t1 : ¬ g = r) (t2 : ¬ gh = r) (h1 : g < w.heap.size) (h2 : gh < w.heap.size) (b0 b1 b2 b3 b4 b5 b6 b7 b8 b9 : Value) :
    XTS g gh A n c AB nb cb h ((((((((((w.setCell ⟨r, 0, none⟩ b0).setCell ⟨r, 1, none⟩ b1).setCell ⟨r, 2, none⟩ b2).setCell ⟨r, 3, none⟩ b3).setCell ⟨r, 4, none⟩ b4).setCell ⟨r, 5, none⟩ b5).setCell ⟨r, 6, none⟩ b6).setCell ⟨r, 7, none⟩ b7).setCell ⟨r, 8, none⟩ b8).setCell ⟨r, 9, none⟩ b9) :=
  k.fr (fr_set10 (S := fun k => k = r) (Fr.refl _ w) rfl b0 b1 b2 b3 b4 b5 b6 b7 b8 b9) t1 t2 h1 h2
def XTakePost (w : World) (g : Nat) (S : Nat → Prop) (p : PS) (e : Ending) (w' : World) : Prop :=
  ∃ (AF : Option Addr) (cF : Nat) (AB : Option Addr) (cB : Nat), e = .returned (.tuple #[reqV p.head.method p.head.tgt p.head.minor (.slice AF p.head.flds.length cF) (.slice AB p.body.length cB) p.head.how.close p.head.how.expect, .int .i64 0]) ∧
    Rd w' w'.heap.size 2 AF p.head.flds.length (fcells p.head.flds) ∧ (0 < p.head.flds.length → ∀ a, AF = some a → w.heap.size ≤ a.block) ∧ Rd w' w'.heap.size 1 AB p.body.length (p.body.map bv) ∧ (0 < p.body.length → ∀ a, AB = some a → w.heap.size ≤ a.block) ∧
    XQ w' g (fun k => k = g) p0 ∧ Moved S (fun k => k = g) w w'
theorem xp_Take_yes (g : Nat) (S : Nat → Prop) (p : PS) (w : World) (q : XQ w g S p) (hp : p.phase = 3) (hi : PInv p) :
    Calls Tryz.prog 47 #[.pointer (some ⟨g, 0, none⟩)] w (XTakePost w g S p) := by
  have key : ∃ (gh : Nat) (Sh : Nat → Prop) (vl : Value) (A : Option Addr) (c : Nat) (ck : Value) (cm : Bool) (Sx : Nat → Prop), S = tS g Sh Sx ∧ X3 w (tS g Sh Sx) w g (xpCells 3 0 (gp gh) vl p.head.how (.slice A p.body.length c) ck cm) gh Sh p.head Sx ∧ Rd w w.heap.size 1 A p.body.length (p.body.map bv) ∧ (0 < p.body.length → ∀ a, A = some a → Sx a.block) ∧ p.body.length ≤ c := by
    cases q with
    | idle ch vl vb ck y cm p hp0 hs hb => omega
    | head gh Sh vl vb ck y cm p hp1 hs x ho => omega
    | len gh Sh vl vb ck p hp0 hs hc x ho => omega
    | chunk gh Sh vl vb gk Sk r p hp0 hs hc x hr => omega
    | whole gh Sh vl A c ck cm Sx p hp0 hs x hr ha hc => exact ⟨gh, Sh, vl, A, c, ck, cm, Sx, rfl, x, hr, ha, hc⟩
    | bad ch vl vb ck y cm p hp0 hb => omega
  clear q
  obtain ⟨gh, Sh, vl, AB, cB, ck, cm, Sx, rfl, x, hrB, haB, hcB⟩ := key
  obtain ⟨n1, n2, hgw, hghw⟩ := x.n1
  have hfl : p.head.flds.length ≤ 100000 := Nat.le_trans hi.hd.len (by decide)
  have hbl : p.body.length ≤ 2048 := by have := hi.body; omega
  have hz : (w.setCell ⟨g, 0, none⟩ (.int .i64 0)).heap.size = w.heap.size := by simp
  have x0 := (x.set_ 0 (.int .i64 0)).cells (xp_ph _ _ _ _ _ _ _ _ _)
  have hfr : Fr (fun k => k = g) w (w.setCell ⟨g, 0, none⟩ (.int .i64 0)) := Fr.setCell (S := fun k => k = g) (Fr.refl _ w) (p := ⟨g, 0, none⟩) (.inl rfl) _
  have hr0 := (hrB.frm (Nat.le_refl _) hfr (fun h0 a ha e => x.d2 (by rw [← e]; exact haB h0 a ha))).more hfr.size
  have LR := allocW (Below.refl _ (w.setCell ⟨g, 0, none⟩ (.int .i64 0))) (.cells #[.string ⟨#[]⟩, .int .i64 0, .string ⟨#[]⟩, .string ⟨#[]⟩, .string ⟨#[]⟩, .int .i64 0, .slice none 0 0, .slice none 0 0, .bool false, .bool false] 27)
  have BR := Blk.new' (w.setCell ⟨g, 0, none⟩ (.int .i64 0)) w.heap.size hz.symm 27 #[.string ⟨#[]⟩, .int .i64 0, .string ⟨#[]⟩, .string ⟨#[]⟩, .string ⟨#[]⟩, .int .i64 0, .slice none 0 0, .slice none 0 0, .bool false, .bool false]
  have x1 := x0.belowW LR
  have hr1 := (hr0.belowW (Nat.le_refl _) LR).more LR.size
  obtain ⟨⟨j0, j1, j2, j3, j4, j5, j6, j7, j8, j9, j10⟩, jf⟩ := Blk.c11 x.blk
  unfold gp at j2
  have i0 := jf 0
  clear jf
  go_enter Tryz.func47, Tryz.ntmps47
  go_upto_region 5 with (fail)
  generalize hW : (w.setCell ⟨g, 0, none⟩ (.int .i64 0)).alloc (.cells #[.string ⟨#[]⟩, .int .i64 0, .string ⟨#[]⟩, .string ⟨#[]⟩, .string ⟨#[]⟩, .int .i64 0, .slice none 0 0, .slice none 0 0, .bool false, .bool false] 27) = W at LR BR x1 hr1 ⊢
  have hzW : W.heap.size = w.heap.size + 1 := by rw [← hW]; simp
  obtain ⟨Af, cf, bb, BX, hrx⟩ := x1.hh.parts15
  unfold xhCells at BX
  have hP0 : XTS g gh Af p.head.flds.length cf AB p.body.length cB p.head W := ⟨BX.cell 0, BX.cell 1, BX.cell 2, BX.cell 3, BX.cell 4, BX.cell 5, BX.cell 6, x1.blk.cell 6, x1.blk.cell 7, x1.blk.cell 8⟩
  have hgW : g < W.heap.size := x1.blk.lt
  have hhW : gh < W.heap.size := BX.lt
  have hP : ∀ w', Below W.heap.size W w' → XTS g gh Af p.head.flds.length cf AB p.body.length cB p.head w' := fun w' hb => hP0.below hb hgW hhW
  have HZW := Lib.hid hzW
  have HW := Lib.hid hW
  clear hzW hW hz x0 hfr hr0 j0 j1 j2 j3 j4 j5 j6 j7 j8 j9 j10 i0 hrB hP0 BX x
  have K1 : XTS g gh Af p.head.flds.length cf AB p.body.length cB p.head W.drew := hP _ (Below.refl W.heap.size W).drew
  have K2 : ∀ o, XTS g gh Af p.head.flds.length cf AB p.body.length cB p.head (W.alloc o).drew := fun o => hP _ (allocW (Below.refl W.heap.size W) o).drew
  have K3 : ∀ o o', XTS g gh Af p.head.flds.length cf AB p.body.length cB p.head ((W.alloc o).alloc o').drew := fun o o' => hP _ (allocW (allocW (Below.refl W.heap.size W) o) o').drew
  have n3 : ¬ g = w.heap.size := by omega
  have n4 : ¬ gh = w.heap.size := by omega
  go_region_held3 (fun w' => XTS g gh Af p.head.flds.length cf AB p.body.length cB p.head w')
    (first | with_reducible exact K1 | with_reducible exact K2 _ | with_reducible exact K3 _ _ | with_reducible exact SF | with_reducible exact SB | with_reducible exact XTS.alloc15 SF _ (Nat.lt_of_lt_of_le hgW (Below.size NF)) (Nat.lt_of_lt_of_le hhW (Below.size NF)) | with_reducible exact XTS.alloc15 SB _ (Nat.lt_of_lt_of_le hgW (Below.size NB)) (Nat.lt_of_lt_of_le hhW (Below.size NB)) | with_reducible exact XTS.set15 SB n3 n4 (Nat.lt_of_lt_of_le hgW (Below.size NB)) (Nat.lt_of_lt_of_le hhW (Below.size NB)) _ _ _ _ _ _ _ _ _ _ | with_reducible exact XTS.set15 SF n3 n4 (Nat.lt_of_lt_of_le hgW (Below.size NF)) (Nat.lt_of_lt_of_le hhW (Below.size NF)) _ _ _ _ _ _ _ _ _ _)
    (first
      | (refine step_appF rfl _ _ rfl W.heap.size (.slice (some ⟨_, 0, none⟩) 0 0) [] rfl ?_ (Below.refl _ _) Af p.head.flds.length cf W.heap.size rfl p.head.flds rfl ?_ ?_ ?_ ?_
         (first | with_reducible exact m1F W | with_reducible exact m2F W _ | with_reducible exact m3F W _ | with_reducible exact m4F (Below.size NB) | with_reducible exact m5F eB | with_reducible exact m6F eB)
         (first | with_reducible exact Rd.below hrx ((allocW (Below.refl W.heap.size W) _).drew) | with_reducible exact Rd.below hrx ((allocW (allocW (Below.refl W.heap.size W) _) _).drew) | with_reducible exact Rd.below hrx (NB) | with_reducible exact Rd.below hrx (allocW NB _))
         (simp only [List.length_nil]; omega)
         (first | with_reducible exact Below.size ((allocW (Below.refl W.heap.size W) _).drew) | with_reducible exact Below.size ((allocW (allocW (Below.refl W.heap.size W) _) _).drew) | with_reducible exact Below.size (NB) | with_reducible exact Below.size (allocW NB _))
         intro vF wF oF eF
         have NF : Below W.heap.size W wF := by (first | with_reducible exact Below.trans ((allocW (Below.refl W.heap.size W) _).drew) (ext_lit eF (Nat.le_refl _) (Below.size ((allocW (Below.refl W.heap.size W) _).drew))) | with_reducible exact Below.trans ((allocW (Below.refl W.heap.size W) _).drew) (ext_lit eF (Nat.le_succ _) (Below.size ((allocW (Below.refl W.heap.size W) _).drew))) | with_reducible exact Below.trans ((allocW (Below.refl W.heap.size W) _).drew) (ext_lit eF (Below.size NB) (Below.size ((allocW (Below.refl W.heap.size W) _).drew))) | with_reducible exact Below.trans ((allocW (allocW (Below.refl W.heap.size W) _) _).drew) (ext_lit eF (Nat.le_refl _) (Below.size ((allocW (allocW (Below.refl W.heap.size W) _) _).drew))) | with_reducible exact Below.trans ((allocW (allocW (Below.refl W.heap.size W) _) _).drew) (ext_lit eF (Nat.le_succ _) (Below.size ((allocW (allocW (Below.refl W.heap.size W) _) _).drew))) | with_reducible exact Below.trans ((allocW (allocW (Below.refl W.heap.size W) _) _).drew) (ext_lit eF (Below.size NB) (Below.size ((allocW (allocW (Below.refl W.heap.size W) _) _).drew))) | with_reducible exact Below.trans (NB) (ext_lit eF (Nat.le_refl _) (Below.size (NB))) | with_reducible exact Below.trans (NB) (ext_lit eF (Nat.le_succ _) (Below.size (NB))) | with_reducible exact Below.trans (NB) (ext_lit eF (Below.size NB) (Below.size (NB))) | with_reducible exact Below.trans (allocW NB _) (ext_lit eF (Nat.le_refl _) (Below.size (allocW NB _))) | with_reducible exact Below.trans (allocW NB _) (ext_lit eF (Nat.le_succ _) (Below.size (allocW NB _))) | with_reducible exact Below.trans (allocW NB _) (ext_lit eF (Below.size NB) (Below.size (allocW NB _))))
         have SF := hP wF NF
         have RF := BR.belowW NF
         obtain ⟨⟨r0, r1, r2, r3, r4, r5, r6, r7, r8, r9⟩, s0, s1, s2, s3, s4, s5, s6, s7, s8, s9⟩ := RF.c10
         obtain ⟨ZF, zF, hvF, -, -, -⟩ := OF.form oF
         subst hvF)
      | (refine step_appB rfl _ _ rfl W.heap.size (.slice (some ⟨_, 0, none⟩) 0 0) [] rfl ?_ (Below.refl _ _) AB p.body.length cB W.heap.size rfl p.body ?_ ?_ ?_ ?_
         (first | with_reducible exact m1B W | with_reducible exact m2B W _ | with_reducible exact m3B W _ | with_reducible exact m4B (Below.size NF) | with_reducible exact m5B eF | with_reducible exact m6B eF)
         (first | with_reducible exact Rd.below hr1 ((allocW (Below.refl W.heap.size W) _).drew) | with_reducible exact Rd.below hr1 ((allocW (allocW (Below.refl W.heap.size W) _) _).drew) | with_reducible exact Rd.below hr1 (NF) | with_reducible exact Rd.below hr1 (allocW NF _))
         (simp only [List.length_nil]; omega)
         (first | with_reducible exact Below.size ((allocW (Below.refl W.heap.size W) _).drew) | with_reducible exact Below.size ((allocW (allocW (Below.refl W.heap.size W) _) _).drew) | with_reducible exact Below.size (NF) | with_reducible exact Below.size (allocW NF _))
         intro vB wB oB eB
         have NB : Below W.heap.size W wB := by (first | with_reducible exact Below.trans ((allocW (Below.refl W.heap.size W) _).drew) (ext_lit eB (Nat.le_refl _) (Below.size ((allocW (Below.refl W.heap.size W) _).drew))) | with_reducible exact Below.trans ((allocW (Below.refl W.heap.size W) _).drew) (ext_lit eB (Nat.le_succ _) (Below.size ((allocW (Below.refl W.heap.size W) _).drew))) | with_reducible exact Below.trans ((allocW (Below.refl W.heap.size W) _).drew) (ext_lit eB (Below.size NF) (Below.size ((allocW (Below.refl W.heap.size W) _).drew))) | with_reducible exact Below.trans ((allocW (allocW (Below.refl W.heap.size W) _) _).drew) (ext_lit eB (Nat.le_refl _) (Below.size ((allocW (allocW (Below.refl W.heap.size W) _) _).drew))) | with_reducible exact Below.trans ((allocW (allocW (Below.refl W.heap.size W) _) _).drew) (ext_lit eB (Nat.le_succ _) (Below.size ((allocW (allocW (Below.refl W.heap.size W) _) _).drew))) | with_reducible exact Below.trans ((allocW (allocW (Below.refl W.heap.size W) _) _).drew) (ext_lit eB (Below.size NF) (Below.size ((allocW (allocW (Below.refl W.heap.size W) _) _).drew))) | with_reducible exact Below.trans (NF) (ext_lit eB (Nat.le_refl _) (Below.size (NF))) | with_reducible exact Below.trans (NF) (ext_lit eB (Nat.le_succ _) (Below.size (NF))) | with_reducible exact Below.trans (NF) (ext_lit eB (Below.size NF) (Below.size (NF))) | with_reducible exact Below.trans (allocW NF _) (ext_lit eB (Nat.le_refl _) (Below.size (allocW NF _))) | with_reducible exact Below.trans (allocW NF _) (ext_lit eB (Nat.le_succ _) (Below.size (allocW NF _))) | with_reducible exact Below.trans (allocW NF _) (ext_lit eB (Below.size NF) (Below.size (allocW NF _))))
         have SB := hP wB NB
         have RB := BR.belowW NB
         obtain ⟨⟨r0, r1, r2, r3, r4, r5, r6, r7, r8, r9⟩, s0, s1, s2, s3, s4, s5, s6, s7, s8, s9⟩ := RB.c10
         obtain ⟨ZB, zB, hvB, -, -, -⟩ := OB.form oB
         subst hvB))
  all_goals
    (try have oFB := Own.fr (Own.alloc oF (.cells #[] 5)) eB.fr (fun k hk he => by have h1 : some wF.heap.size = some k := he; injection h1 with h1; have h2 := Own.lt2 oF hk; omega))
    (try have oFB := Own.fr oF eB.fr (own_ne eF (by omega) (by simp <;> omega)))
    rw [List.nil_append] at oFB oB
    have T9 := RB.set10 (sv p.head.method) (.int .i64 p.head.tgt.form) (sv p.head.tgt.host) (sv p.head.tgt.path) (sv p.head.tgt.query) (.int .i64 p.head.minor) (.slice ZF p.head.flds.length zF) (.slice ZB p.body.length zB) (.bool p.head.how.close) (.bool p.head.how.expect)
    have F10 := fr_set10 (S := fun k => k = w.heap.size) (Fr.refl _ wB) rfl (sv p.head.method) (.int .i64 p.head.tgt.form) (sv p.head.tgt.host) (sv p.head.tgt.path) (sv p.head.tgt.query) (.int .i64 p.head.minor) (.slice ZF p.head.flds.length zF) (.slice ZB p.body.length zB) (.bool p.head.how.close) (.bool p.head.how.expect)
    rw [show Value.string { data := p.head.method.toArray } = sv p.head.method from rfl, show Value.string { data := p.head.tgt.host.toArray } = sv p.head.tgt.host from rfl, show Value.string { data := p.head.tgt.path.toArray } = sv p.head.tgt.path from rfl, show Value.string { data := p.head.tgt.query.toArray } = sv p.head.tgt.query from rfl]
    generalize ((((((((((wB.setCell ⟨w.heap.size, 0, none⟩ (sv p.head.method)).setCell ⟨w.heap.size, 1, none⟩ (.int .i64 p.head.tgt.form)).setCell ⟨w.heap.size, 2, none⟩ (sv p.head.tgt.host)).setCell ⟨w.heap.size, 3, none⟩ (sv p.head.tgt.path)).setCell ⟨w.heap.size, 4, none⟩ (sv p.head.tgt.query)).setCell ⟨w.heap.size, 5, none⟩ (.int .i64 p.head.minor)).setCell ⟨w.heap.size, 6, none⟩ (.slice ZF p.head.flds.length zF)).setCell ⟨w.heap.size, 7, none⟩ (.slice ZB p.body.length zB)).setCell ⟨w.heap.size, 8, none⟩ (.bool p.head.how.close)).setCell ⟨w.heap.size, 9, none⟩ (.bool p.head.how.expect)) = E at T9 F10 ⊢
    obtain ⟨⟨t0, t1, t2, t3, t4, t5, t6, t7, t8, t9⟩, -⟩ := T9.c10
    have hzW := HZW.out
    have hFE := Own.fr oFB F10 (fun k hk e => by have := (Own.lt oFB k hk).1; omega)
    have hBE := Own.fr oB F10 (fun k hk e => by have := (Own.lt oB k hk).1; omega)
    obtain ⟨-, -, hrF⟩ := Own.rdS hFE
    obtain ⟨-, -, hrBB⟩ := Own.rdS hBE
    have hbE := (x1.blk.belowW NB).fr F10 n3
    clear K1 K2 K3 hP SF SB eF eB
    go_wp2
    refine bodyPost_ret (v := .tuple #[reqV p.head.method p.head.tgt p.head.minor (.slice ZF p.head.flds.length zF) (.slice ZB p.body.length zB) p.head.how.close p.head.how.expect, .int .i64 0]) (by simp [results, Tryz.results47, go_sem, t0, t1, t2, t3, t4, t5, t6, t7, t8, t9]) rfl ⟨ZF, zF, ZB, zB, rfl, hrF, fun h0 a ha => by have := (Own.lt oFB _ (Own.blkOf oFB h0 a ha)).1; omega, hrBB, fun h0 a ha => by have := (Own.lt oB _ (Own.blkOf oB h0 a ha)).1; omega, .idle _ _ _ _ _ _ p0 rfl rfl hbE, ⟨?_, fun k hk => .inl (.inl hk)⟩⟩
    exact (x1.m.fr.trans (Fr.ofBelow NB) fun k hk => .inr (by have h9 : W.heap.size ≤ k := hk; omega)).trans F10 fun k hk => .inr (Nat.le_of_eq hk.symm)
end Go.Proofs.YtlambdccmfnloaaGreatDoor
