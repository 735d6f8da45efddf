/- append on rows of fields; an object that holds such a row. -/
import Derived.Test.YtmnnbfaaaifcoaaGreatDoorApp
import Derived.Test.YtmnnbfaaaifcoaaGreatDoorFPl
import Derived.Deep.RegionLaw
namespace Go.Proofs.YtmnnbfaaaifcoaaGreatDoor
open Go.RowKit
set_option maxRecDepth 100000
set_option maxHeartbeats 2000000

theorem quiet_lf {P : Program} {f : FuncId} {args : Array Value} {w : World} {n : Nat} {v : Value}
    (h : Calls P f args (w.drewN n) fun e w' => e = .returned v ∧ w.drewN n = w') : Calls P f args (w.drewN n) fun e w'' => e = .returned v ∧ ∃ m, w'' = w.drewN m :=
  h.mono fun _ _ ⟨he, hm⟩ => ⟨he, n, hm.symm⟩
/-- A row of fields that the call owns. -/
def OF (w : World) (base : Nat) (v : Value) (l : List Fd) : Prop := Own w base 49 2 v l.length (fcells l)
theorem OF.nil (w : World) (base : Nat) : OF w base (.slice none 0 0) [] := Own.nil w base _ 2
theorem OF.belowW {w w' : World} {base : Nat} {v : Value} {l : List Fd} (h : OF w base v l) (hb : Below w.heap.size w w') : OF w' base v l := Own.belowW h hb
theorem OF.form {w : World} {base : Nat} {v : Value} {l : List Fd} (h : OF w base v l) : ∃ A c, v = .slice A l.length c ∧ l.length ≤ c ∧ c ≤ maxLen ∧ Rd w w.heap.size 2 A l.length (fcells l) := by
  obtain ⟨A, c, h1, h2, h3, h4, _⟩ := Own.rd h
  exact ⟨A, c, h1, h2, h3, h4⟩
/-- append(l, f..) in a region that draws its order. -/
theorem step_appF {ops : Array Oper} {o : Oper} {a : Act} {w0 w : World} {K : Act → World → Prop} {Q : Exit → Act → World → Prop} {E : Prop} (hgd : o.guard = none) (s x : Operand)
    (ho : o.op = .call { callee := .builtin .append, args := #[s, x], argTypes := #[39, 39] })
    (base : Nat) (v : Value) (l : List Fd) (hs : a.eval s = v) (hown : OF w0 base v l) (hw : Below w0.heap.size w0 w) (A : Option Addr) (n c B : Nat) (hx : a.eval x = .slice A n c) (m : List Fd) (hm : m.length = n) (hr : Rd w B 2 A n (fcells m))
    (hlen : l.length + m.length ≤ 1000000) (hbase : base ≤ w0.heap.size)
    (hK : ∀ v' w', OF w' base v' (l ++ m) → Ext w0 w' v v' → K (a.put o.dst v') w') :
    if Region.wanted o (yielded ops a.tmps) = true then Oper.wp Tryz.prog o a w K Q else E := by
  have hwt : Region.wanted o (yielded ops a.tmps) = true := by simp [Region.wanted, hgd]
  rw [if_pos hwt]
  subst hm
  obtain ⟨i0, hi, hz0, hz1, hz2⟩ := info_parts info_fd
  obtain ⟨v', w', hrun, h2, h3, h4⟩ := run_append_Own (P := Tryz.prog) w base 39 39 o.type 49 i0 _ 2 32 Tryz.underlying39 (.inl Tryz.underlying39) hi hz0 hz1 hz2 rfl (by decide) v l.length _ (hown.belowW hw) (.slice A m.length c) m.length _ (Src.of_rd hr (fcells_one m)) (by unfold maxLen; omega) (by omega) (Nat.le_trans hbase hw.size)
  rw [← fcells_app] at h2
  have key := hK v' w' (by unfold OF; rw [List.length_append]; exact h2) (ext_of hw h3 h4)
  unfold Oper.wp
  simp [execOp, ho, resolve, invoke, builtin, hs, hx, hrun, Result.andThen]
  exact key
/-- The same in a statement whose order is fixed. -/
theorem wp_appF {ops : Array Oper} {rest : List Oper} {o : Oper} {a : Act} {Q : Exit → Act → World → Prop} {w0 w : World} (hgd : o.guard = none) (s x : Operand)
    (ho : o.op = .call { callee := .builtin .append, args := #[s, x], argTypes := #[39, 39] })
    (base : Nat) (v : Value) (l : List Fd) (hs : a.eval s = v) (hown : OF w0 base v l) (hw : Below w0.heap.size w0 w) (A : Option Addr) (n c B : Nat) (hx : a.eval x = .slice A n c) (m : List Fd) (hm : m.length = n) (hr : Rd w B 2 A n (fcells m))
    (hlen : l.length + m.length ≤ 1000000) (hbase : base ≤ w0.heap.size)
    (h : ∀ v' w', OF w' base v' (l ++ m) → Ext w0 w' v v' → wpList Tryz.prog ops Q rest (a.put o.dst v') w') : wpList Tryz.prog ops Q (o :: rest) a w := by
  obtain ⟨i0, hi, hz0, hz1, hz2⟩ := info_parts info_fd
  subst hm
  refine wpList_append_Own w hgd s x 39 39 ho base 49 i0 _ 2 32 Tryz.underlying39 (.inl Tryz.underlying39) hi hz0 hz1 hz2 rfl (by decide) v l.length _ hs (hown.belowW hw) _ m.length _ hx (Src.of_rd hr (fcells_one m)) (by unfold maxLen; omega) (by omega) (Nat.le_trans hbase hw.size) ?_
  intro v' w' ho' hg ha
  refine h v' w' ?_ (ext_of hw hg ha)
  rw [← fcells_app] at ho'
  unfold OF
  rw [List.length_append]
  exact ho'

/-! ### An object with one row -/
/-- At block g stands a row of fields of the call's own. -/
structure FA (w : World) (T : TypeId) (g base : Nat) (v : Value) (l : List Fd) : Prop where
  blk : Blk w g T #[v]
  own : OF w base v l
  lo : base ≤ g
  ne : v.ownBlock ≠ some g
theorem FA.fr {w w' : World} {T : TypeId} {g base : Nat} {v : Value} {l : List Fd} {S : Nat → Prop} (h : FA w T g base v l) (hf : Fr S w w') (h1 : ¬ S g) (h2 : ∀ k, v.ownBlock = some k → ¬ S k) : FA w' T g base v l :=
  ⟨h.blk.fr hf h1, Own.fr h.own hf h2, h.lo, h.ne⟩
theorem FA.belowW {w w' : World} {T : TypeId} {g base : Nat} {v : Value} {l : List Fd} (h : FA w T g base v l) (hb : Below w.heap.size w w') : FA w' T g base v l :=
  ⟨h.blk.belowW hb, h.own.belowW hb, h.lo, h.ne⟩
theorem FA.alloc {w : World} {T : TypeId} {g base : Nat} {v : Value} {l : List Fd} (h : FA w T g base v l) (o : Obj) : FA (w.alloc o) T g base v l :=
  ⟨h.blk.alloc o, Own.alloc h.own o, h.lo, h.ne⟩
/-- What may turn when fields are added. -/
def FS (g : Nat) (v : Value) : Nat → Prop := fun k => k = g ∨ v.ownBlock = some k
theorem FA.app {w1 w3 : World} {T : TypeId} {g base : Nat} {v v' : Value} {l l' : List Fd} (h : FA w1 T g base v l) (hx : Ext w1 w3 v v') (ho : OF w3 base v' l') : FA (w3.setCell ⟨g, 0, none⟩ v') T g base v' l' := by
  have hne : ∀ k, v'.ownBlock = some k → k ≠ g := by
    intro k hk hg
    subst hg
    rcases hx.own k hk with h1 | h1
    · exact h.ne h1
    · have := h.blk.lt; omega
  exact ⟨(h.blk.fr hx.fr h.ne).set_ 0 v', Own.far ho (p := ⟨g, 0, none⟩) hne v', h.lo, fun e => hne g e rfl⟩
theorem FA.app_fr {w1 w3 : World} {g : Nat} {v v' : Value} (hx : Ext w1 w3 v v') (u : Value) : Fr (FS g v) w1 (w3.setCell ⟨g, 0, none⟩ u) :=
  (hx.fr.mono fun _ hi => .inl (.inr hi)).setCell (.inl (.inl rfl)) u
theorem FS.trans {w w1 w3 : World} {g : Nat} {v v1 : Value} (h : Fr (FS g v) w w1) (k : Fr (FS g v1) w1 w3) (hv : ∀ j, v1.ownBlock = some j → v.ownBlock = some j ∨ w.heap.size ≤ j) : Fr (FS g v) w w3 :=
  h.trans k fun i hi => by
    rcases hi with h1 | h1
    · exact .inl (.inl h1)
    · rcases hv i h1 with h2 | h2
      · exact .inl (.inr h2)
      · exact .inr h2
theorem FS.own {w w1 : World} {v v1 v2 : Value} (hv : ∀ j, v1.ownBlock = some j → v.ownBlock = some j ∨ w.heap.size ≤ j) (hs : w.heap.size ≤ w1.heap.size) (hx : ∀ j, v2.ownBlock = some j → v1.ownBlock = some j ∨ w1.heap.size ≤ j) : ∀ j, v2.ownBlock = some j → v.ownBlock = some j ∨ w.heap.size ≤ j := by
  intro j hj
  rcases hx j hj with h | h
  · exact hv j h
  · exact .inr (Nat.le_trans hs h)
theorem Fr.belowW {S : Nat → Prop} {w0 w w' : World} (h : Fr S w0 w) (hb : Below w.heap.size w w') : Fr S w0 w' :=
  h.trans (Fr.ofBelow hb) fun _ hi => .inr (Nat.le_trans h.size hi)
theorem Rd.frm {S : Nat → Prop} {w w' : World} {B size n : Nat} {A : Option Addr} {xs : List Value} (h : Rd w B size A n xs) (hB : B ≤ w.heap.size) (hf : Fr S w w') (hs : 0 < n → ∀ a, A = some a → ¬ S a.block) : Rd w' B size A n xs := by
  refine ⟨h.1, fun hn => ?_⟩
  obtain ⟨b, o, e, hb, hc⟩ := h.2 hn
  exact ⟨b, o, e, hb, fun j u hu => (hf.cell (p := ⟨b, o + j, none⟩) (by show b < _; omega) (hs hn ⟨b, o, none⟩ e)).trans (hc j u hu)⟩
theorem Rd.off {S : Nat → Prop} {w : World} {B size n : Nat} {A : Option Addr} {xs : List Value} (h : Rd w B size A n xs) (hS : ∀ i, S i → B ≤ i) : 0 < n → ∀ a, A = some a → ¬ S a.block := by
  intro hn a ha hs
  obtain ⟨b, o, e, hb, -⟩ := h.2 hn
  rw [e] at ha
  injection ha with ha
  subst ha
  have := hS _ hs
  simp at this
  omega
/-- A field of a row. -/
theorem Rd.fd {w : World} {B n : Nat} {A : Option Addr} {l : List Fd} (h : Rd w B 2 A n (fcells l)) (hn : l.length = n) (k : Nat) (f : Fd) (hf : l[k]? = some f) :
    ∃ b o, A = some ⟨b, o, none⟩ ∧ b < B ∧ w.cell? ⟨b, o + k * 2, none⟩ = some (sv f.1) ∧ w.cell? ⟨b, o + k * 2 + 1, none⟩ = some (sv f.2) := by
  have hk : k < l.length := (List.getElem?_eq_some_iff.1 hf).1
  obtain ⟨b, o, e, hb, hc⟩ := h.2 (by omega)
  have key : ∀ (l : List Fd) (k : Nat) (f : Fd), l[k]? = some f → (fcells l)[k * 2]? = some (sv f.1) ∧ (fcells l)[k * 2 + 1]? = some (sv f.2) := by
    intro l
    induction l with
    | nil => intro k f h; simp at h
    | cons g l ih =>
      intro k f h
      cases k with
      | zero => simp at h; subst h; simp [fcells]
      | succ k =>
        have := ih k f (by simpa using h)
        rw [show (k + 1) * 2 = k * 2 + 2 by omega]
        simpa [fcells] using this
  obtain ⟨h1, h2⟩ := key l k f hf
  exact ⟨b, o, e, hb, hc _ _ h1, by have := hc _ _ h2; rwa [← Nat.add_assoc] at this⟩
/-- The first cell of block g. -/
def Cel (w : World) (g : Nat) (u : Value) : Prop := ∃ T cs, Blk w g T cs ∧ cs[0]? = some u
theorem Cel.of {w : World} {g : Nat} {T : TypeId} {cs : Array Value} {u : Value} (h : Blk w g T cs) (hc : cs[0]? = some u) : Cel w g u := ⟨T, cs, h, hc⟩
theorem Cel.c1 {w : World} {g : Nat} {u : Value} (h : Cel w g u) : w.cell? ⟨g, 0, none⟩ = some u ∧ w.frozen? ⟨g, 0, none⟩ = false := by
  obtain ⟨T, cs, h, hc⟩ := h
  exact ⟨(h.cell 0).trans hc, h.frozen 0⟩
theorem Cel.belowW {w w' : World} {g : Nat} {u : Value} (h : Cel w g u) (hb : Below w.heap.size w w') : Cel w' g u := by
  obtain ⟨T, cs, h, hc⟩ := h
  exact ⟨T, cs, h.belowW hb, hc⟩
theorem Cel.drewN {w : World} {g : Nat} {u : Value} (h : Cel w g u) (n : Nat) : Cel (w.drewN n) g u := h
theorem Cel.alloc {w : World} {g : Nat} {u : Value} (h : Cel w g u) (o : Obj) : Cel (w.alloc o) g u := by
  obtain ⟨T, cs, h, hc⟩ := h
  exact ⟨T, cs, h.alloc o, hc⟩
/-- At block g stands, ahead of whatever else, a row of fields that may be read. -/
def FR (w : World) (_ : TypeId) (g : Nat) (l : List Fd) : Prop := ∃ A c, Cel w g (.slice A l.length c) ∧ l.length ≤ c ∧ Rd w w.heap.size 2 A l.length (fcells l)
theorem FA.rd {w : World} {T : TypeId} {g base : Nat} {v : Value} {l : List Fd} (h : FA w T g base v l) : FR w T g l := by
  obtain ⟨A, c, e, h1, -, h3⟩ := h.own.form
  exact ⟨A, c, Cel.of h.blk (by rw [e]; rfl), h1, h3⟩
theorem FR.belowW {w w' : World} {T : TypeId} {g : Nat} {l : List Fd} (h : FR w T g l) (hb : Below w.heap.size w w') : FR w' T g l := by
  obtain ⟨A, c, h1, h2, h3⟩ := h
  exact ⟨A, c, h1.belowW hb, h2, (h3.belowW (Nat.le_refl _) hb).more hb.size⟩
/-- A row of texts handed back. -/
def ValPost (w : World) (vs : List Bs) (e : Ending) (w' : World) : Prop :=
  (∃ A c, e = .returned (.slice A vs.length c) ∧ vs.length ≤ c ∧ c ≤ maxLen ∧ Rd w' w'.heap.size 1 A vs.length (vs.map tv)) ∧ Below w.heap.size w w'
theorem val_ret {w wr : World} {base : Nat} {v : Value} {l : List Bs} {vs : List Bs} (ho : OS wr base v l) (e : l = vs) (L : Below w.heap.size w wr) : ValPost w vs (.returned v) wr := by
  subst e
  obtain ⟨A, c, hv, h1, h2, h3⟩ := ho.form
  exact ⟨⟨A, c, by rw [hv], h1, h2, h3⟩, L⟩
theorem Rd.tx {w : World} {B n : Nat} {A : Option Addr} {l : List Bs} (h : Rd w B 1 A n (l.map tv)) (k : Nat) (s : Bs) (hs : l[k]? = some s) :
    ∃ b o, A = some ⟨b, o, none⟩ ∧ b < B ∧ w.cell? ⟨b, o + k, none⟩ = some (sv s) := by
  have hk : k < l.length := (List.getElem?_eq_some_iff.1 hs).1
  have hn : l.length = n := by simpa using h.1
  obtain ⟨b, o, e, hb, hc⟩ := h.2 (by omega)
  exact ⟨b, o, e, hb, hc k _ (by rw [List.getElem?_map, hs]; rfl)⟩
end Go.Proofs.YtmnnbfaaaifcoaaGreatDoor
