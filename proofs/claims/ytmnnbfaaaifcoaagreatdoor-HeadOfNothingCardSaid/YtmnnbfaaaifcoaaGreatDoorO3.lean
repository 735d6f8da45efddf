/- An object with two rows of bytes and one of fields. -/
import Derived.Test.YtmnnbfaaaifcoaaGreatDoorAppF
namespace Go.Proofs.YtmnnbfaaaifcoaaGreatDoor
open Go.RowKit
set_option maxRecDepth 100000
set_option maxHeartbeats 2000000

/-- append(b, s..) in a region that draws its order. -/
theorem step_appB {ops : Array Oper} {o : Oper} {a : Act} {w0 w : World} {K : Act → World → Prop} {Q : Exit → Act → World → Prop} {E : Prop} (hgd : o.guard = none) (s x : Operand)
    (ho : o.op = .call { callee := .builtin .append, args := #[s, x], argTypes := #[61, 61] })
    (base : Nat) (v : Value) (l : Bs) (hs : a.eval s = v) (hown : OB w0 base v l) (hw : Below w0.heap.size w0 w) (A : Option Addr) (n c B : Nat) (hx : a.eval x = .slice A n c) (m : Bs) (hr : Rd w B 1 A n (m.map bv))
    (hlen : l.length + m.length ≤ 140737488355328) (hbase : base ≤ w0.heap.size)
    (hK : ∀ v' w', OB w' base v' (l ++ m) → Ext w0 w' v v' → K (a.put o.dst v') w') :
    if Region.wanted o (yielded ops a.tmps) = true then Oper.wp Tryz.prog o a w K Q else E := by
  have hwt : Region.wanted o (yielded ops a.tmps) = true := by simp [Region.wanted, hgd]
  rw [if_pos hwt]
  have hn : m.length = n := by simpa using hr.1
  subst hn
  obtain ⟨i0, hi, hz0, hz1, hz2⟩ := info_parts info_b8
  obtain ⟨v', w', hrun, h2, h3, h4⟩ := run_append_Own (P := Tryz.prog) w base 61 61 o.type 5 i0 _ 1 1 Tryz.underlying61 (.inl Tryz.underlying61) hi hz0 hz1 hz2 rfl (by decide) v l.length _ (hown.belowW hw) (.slice A m.length c) m.length _ (Src.of_rd hr (bv_one m)) (by unfold maxLen; omega) (by omega) (Nat.le_trans hbase hw.size)
  have e : (l.map bv ++ m.map bv) = (l ++ m).map bv := by simp
  rw [e] at h2
  have key := hK v' w' (by unfold OB; rw [List.length_append]; exact h2) (ext_of hw h3 h4)
  unfold Oper.wp
  simp [execOp, ho, resolve, invoke, builtin, hs, hx, hrun, Result.andThen]
  exact key
theorem Own.lt2 {w : World} {base e size n : Nat} {v : Value} {xs : List Value} (h : Own w base e size v n xs) {k : Nat} (hk : v.ownBlock = some k) : k < w.heap.size := (h.lt k hk).2
/-- At block g stands an object with the cells cs; of the rows that it holds (vl, vb: bytes; vt: fields) each is its own. -/
structure O3 (w : World) (T : TypeId) (g : Nat) (cs : Array Value) (vl vb vt : Value) (L B : Bs) (F : List Fd) : Prop where
  blk : Blk w g T cs
  ol : OB w 0 vl L
  ob : OB w 0 vb B
  ot : OF w 0 vt F
  nl : vl.ownBlock ≠ some g
  nb : vb.ownBlock ≠ some g
  nt : vt.ownBlock ≠ some g
  lb : ∀ k, vl.ownBlock = some k → vb.ownBlock ≠ some k
  lt : ∀ k, vl.ownBlock = some k → vt.ownBlock ≠ some k
  bt : ∀ k, vb.ownBlock = some k → vt.ownBlock ≠ some k
/-- The blocks of such an object. -/
def foot (g : Nat) (vl vb vt : Value) : Nat → Prop := fun k => k = g ∨ vl.ownBlock = some k ∨ vb.ownBlock = some k ∨ vt.ownBlock = some k
namespace O3
variable {w w' : World} {T : TypeId} {g : Nat} {cs : Array Value} {vl vb vt vl' vb' vt' : Value} {L B L' B' : Bs} {F F' : List Fd}
theorem foot_lt (h : O3 w T g cs vl vb vt L B F) {k : Nat} (hk : foot g vl vb vt k) : k < w.heap.size := by
  rcases hk with rfl | hk | hk | hk
  · exact h.blk.lt
  · exact Own.lt2 h.ol hk
  · exact Own.lt2 h.ob hk
  · exact Own.lt2 h.ot hk
theorem fr {S : Nat → Prop} (h : O3 w T g cs vl vb vt L B F) (hf : Fr S w w') (hs : ∀ k, foot g vl vb vt k → ¬ S k) : O3 w' T g cs vl vb vt L B F :=
  ⟨h.blk.fr hf (hs g (.inl rfl)), Own.fr h.ol hf fun k hk => hs k (.inr (.inl hk)), Own.fr h.ob hf fun k hk => hs k (.inr (.inr (.inl hk))), Own.fr h.ot hf fun k hk => hs k (.inr (.inr (.inr hk))), h.nl, h.nb, h.nt, h.lb, h.lt, h.bt⟩
theorem belowW (h : O3 w T g cs vl vb vt L B F) (hb : Below w.heap.size w w') : O3 w' T g cs vl vb vt L B F :=
  ⟨h.blk.belowW hb, h.ol.belowW hb, h.ob.belowW hb, h.ot.belowW hb, h.nl, h.nb, h.nt, h.lb, h.lt, h.bt⟩
theorem drewN (h : O3 w T g cs vl vb vt L B F) (n : Nat) : O3 (w.drewN n) T g cs vl vb vt L B F :=
  ⟨h.blk.drewN n, h.ol.drewN n, h.ob.drewN n, Own.drewN h.ot n, h.nl, h.nb, h.nt, h.lb, h.lt, h.bt⟩
theorem set_ (h : O3 w T g cs vl vb vt L B F) (i : Nat) (u : Value) : O3 (w.setCell ⟨g, i, none⟩ u) T g (cs.setIfInBounds i u) vl vb vt L B F :=
  ⟨h.blk.set_ i u, Own.far h.ol (p := ⟨g, i, none⟩) (fun k hk e => h.nl (by rw [hk]; exact congrArg some e)) u, Own.far h.ob (p := ⟨g, i, none⟩) (fun k hk e => h.nb (by rw [hk]; exact congrArg some e)) u, Own.far h.ot (p := ⟨g, i, none⟩) (fun k hk e => h.nt (by rw [hk]; exact congrArg some e)) u, h.nl, h.nb, h.nt, h.lb, h.lt, h.bt⟩
theorem extL (h : O3 w T g cs vl vb vt L B F) (hx : Ext w w' vl vl') (ho : OB w' 0 vl' L') : O3 w' T g cs vl' vb vt L' B F := by
  refine ⟨h.blk.fr hx.fr h.nl, ho, hx.keep h.ob h.lb, hx.keep h.ot h.lt, ?_, h.nb, h.nt, ?_, ?_, h.bt⟩
  · intro hg
    rcases hx.own g hg with h1 | h1
    · exact h.nl h1
    · have := h.blk.lt; omega
  · intro k hk hv
    rcases hx.own k hk with h1 | h1
    · exact h.lb k h1 hv
    · have := Own.lt2 h.ob hv; omega
  · intro k hk hv
    rcases hx.own k hk with h1 | h1
    · exact h.lt k h1 hv
    · have := Own.lt2 h.ot hv; omega
theorem extB (h : O3 w T g cs vl vb vt L B F) (hx : Ext w w' vb vb') (ho : OB w' 0 vb' B') : O3 w' T g cs vl vb' vt L B' F := by
  refine ⟨h.blk.fr hx.fr h.nb, hx.keep h.ol (fun k h1 h2 => h.lb k h2 h1), ho, hx.keep h.ot h.bt, h.nl, ?_, h.nt, ?_, h.lt, ?_⟩
  · intro hg
    rcases hx.own g hg with h1 | h1
    · exact h.nb h1
    · have := h.blk.lt; omega
  · intro k hk hv
    rcases hx.own k hv with h1 | h1
    · exact h.lb k hk h1
    · have := Own.lt2 h.ol hk; omega
  · intro k hk hv
    rcases hx.own k hk with h1 | h1
    · exact h.bt k h1 hv
    · have := Own.lt2 h.ot hv; omega
theorem extT (h : O3 w T g cs vl vb vt L B F) (hx : Ext w w' vt vt') (ho : OF w' 0 vt' F') : O3 w' T g cs vl vb vt' L B F' := by
  refine ⟨h.blk.fr hx.fr h.nt, hx.keep h.ol (fun k h1 h2 => h.lt k h2 h1), hx.keep h.ob (fun k h1 h2 => h.bt k h2 h1), ho, h.nl, h.nb, ?_, h.lb, ?_, ?_⟩
  · intro hg
    rcases hx.own g hg with h1 | h1
    · exact h.nt h1
    · have := h.blk.lt; omega
  · intro k hk hv
    rcases hx.own k hv with h1 | h1
    · exact h.lt k hk h1
    · have := Own.lt2 h.ol hk; omega
  · intro k hk hv
    rcases hx.own k hv with h1 | h1
    · exact h.bt k hk h1
    · have := Own.lt2 h.ob hk; omega
theorem nilL (h : O3 w T g cs vl vb vt L B F) : O3 w T g cs (.slice none 0 0) vb vt [] B F :=
  ⟨h.blk, OB.nil _ _, h.ob, h.ot, by simp [Value.ownBlock], h.nb, h.nt, by simp [Value.ownBlock], by simp [Value.ownBlock], h.bt⟩
/-- The line, cut to nothing. -/
theorem cutL (h : O3 w T g cs vl vb vt L B F) (hL : 0 < L.length) : ∃ b c, vl = .slice (some ⟨b, 0, none⟩) L.length c ∧ O3 w T g cs (.slice (some ⟨b, 0, none⟩) 0 c) vb vt [] B F := by
  obtain ⟨b, c, e, ho⟩ := Own.cut h.ol (k := 0) (Nat.zero_le _) hL
  subst e
  refine ⟨b, c, rfl, h.blk, ?_, h.ob, h.ot, ?_, h.nb, h.nt, ?_, ?_, h.bt⟩
  · unfold OB; simpa using ho
  · have := h.nl; simpa [Value.ownBlock] using this
  · have := h.lb; simpa [Value.ownBlock] using this
  · have := h.lt; simpa [Value.ownBlock] using this
end O3
/-- What may be said of an object behind a call: its blocks are its own or new, and no other has turned. -/
structure Moved (S S' : Nat → Prop) (w w' : World) : Prop where
  fr : Fr S w w'
  foot : ∀ k, S' k → S k ∨ w.heap.size ≤ k
theorem Moved.refl (S : Nat → Prop) (w : World) : Moved S S w w := ⟨Fr.refl _ _, fun _ h => .inl h⟩
theorem Moved.trans {S S' S'' : Nat → Prop} {w w' w'' : World} (h : Moved S S' w w') (k : Moved S' S'' w' w'') : Moved S S'' w w'' :=
  ⟨h.fr.trans k.fr h.foot, fun i hi => by
    rcases k.foot i hi with h1 | h1
    · exact h.foot i h1
    · exact .inr (Nat.le_trans h.fr.size h1)⟩
theorem Moved.belowW {S S' : Nat → Prop} {w w' w'' : World} (h : Moved S S' w w') (hb : Below w'.heap.size w' w'') : Moved S S' w w'' := ⟨h.fr.belowW hb, h.foot⟩
theorem Moved.set_ {S S' : Nat → Prop} {w w' : World} (h : Moved S S' w w') {p : Addr} (hp : S p.block) (u : Value) : Moved S S' w (w'.setCell p u) := ⟨h.fr.setCell (.inl hp) u, h.foot⟩
theorem Moved.toBelow {S S' : Nat → Prop} {w0 w w' : World} (h : Moved S S' w w') (L : Below w0.heap.size w0 w) (hS : ∀ k, S k → w0.heap.size ≤ k) : Below w0.heap.size w0 w' := L.trans (h.fr.toBelow L.size hS)
end Go.Proofs.YtmnnbfaaaifcoaaGreatDoor
