/- reply.Encode$1: a line is laid. -/
import Derived.Test.YtlambdccmfnloaaGreatDoorReG
namespace Go.Proofs.YtlambdccmfnloaaGreatDoor
open Go.RowKit
set_option maxRecDepth 100000
set_option maxHeartbeats 4000000

theorem step_appT {ops : Array Oper} {o : Oper} {a : Act} {w : World} {K : Act → World → Prop} {Q : Exit → Act → World → Prop} {E : Prop} (hgd : o.guard = none) (s x : Operand)
    (ho : o.op = .call { callee := .builtin .append, args := #[s, x], argTypes := #[25, 9] })
    (base : Nat) (v : Value) (l : Bs) (hs : a.eval s = v) (hown : OB w base v l) (m : Bs) (hx : a.eval x = sv m)
    (hlen : l.length + m.length ≤ 140737488355328) (hbase : base ≤ w.heap.size)
    (hK : ∀ v' w', OB w' base v' (l ++ m) → Ext w w' v v' → K (a.put o.dst v') w') :
    if Region.wanted o (yielded ops a.tmps) = true then Oper.wp Tryz.prog o a w K Q else E := by
  have hwt : Region.wanted o (yielded ops a.tmps) = true := by simp [Region.wanted, hgd]
  rw [if_pos hwt]
  obtain ⟨i0, hi, hz0, hz1, hz2⟩ := info_parts info_b8
  obtain ⟨v', w', hrun, h2, h3, h4⟩ := run_append_Own (P := Tryz.prog) w base 25 9 o.type 5 i0 _ 1 1 Tryz.underlying25 (.inr Tryz.underlying9) hi hz0 hz1 hz2 rfl (by decide) v l.length _ hown (sv m) m.length _ (Src.of_string (P := Tryz.prog) (w := w) m) (by unfold maxLen; omega) (by omega) hbase
  have e : (l.map bv ++ m.map bv) = (l ++ m).map bv := by simp
  rw [e] at h2
  have key := hK v' w' (by unfold OB; rw [List.length_append]; exact h2) (ext_of (Below.refl _ _) h3 h4)
  unfold Oper.wp
  simp [execOp, ho, resolve, invoke, builtin, hs, hx, hrun, Result.andThen]
  exact key

/-- At block g stands a row of bytes of the call's own. -/
structure BA (w : World) (g base : Nat) (v : Value) (l : Bs) : Prop where
  blk : Blk w g 25 #[v]
  own : OB w base v l
  lo : base ≤ g
  ne : v.ownBlock ≠ some g
theorem BA.belowW {w w' : World} {g base : Nat} {v : Value} {l : Bs} (h : BA w g base v l) (hb : Below w.heap.size w w') : BA w' g base v l := ⟨h.blk.belowW hb, h.own.belowW hb, h.lo, h.ne⟩
theorem BA.app {w1 w3 : World} {g base : Nat} {v v' : Value} {l l' : Bs} (h : BA w1 g base v l) (hx : Ext w1 w3 v v') (ho : OB w3 base v' l') : BA (w3.setCell ⟨g, 0, none⟩ v') g base v' l' := by
  have hne : ∀ k, v'.ownBlock = some k → k ≠ g := by
    intro k hk hg
    subst hg
    rcases hx.own k hk with h1 | h1
    · exact h.ne h1
    · have := h.blk.lt; omega
  exact ⟨(h.blk.fr hx.fr h.ne).set_ 0 v', Own.far ho (p := ⟨g, 0, none⟩) hne v', h.lo, fun e => hne g e rfl⟩
theorem BA.below {w w1 w3 : World} {g base : Nat} {v v' : Value} {l : Bs} (h : BA w1 g base v l) (L : Below base w w1) (hb : base ≤ w1.heap.size) (hx : Ext w1 w3 v v') (u : Value) : Below base w (w3.setCell ⟨g, 0, none⟩ u) :=
  L.trans ((FA.app_fr hx u).toBelow hb (by
    intro i hi
    rcases hi with h1 | h1
    · rw [h1]; exact h.lo
    · exact (Own.lt h.own i h1).1))
theorem Ext.two {w1 w2 w3 : World} {v1 v2 v3 : Value} (h : Ext w1 w2 v1 v2) (k : Ext w2 w3 v2 v3) (hs : w1.heap.size ≤ w2.heap.size) : Ext w1 w3 v1 v3 :=
  ⟨h.fr.trans k.fr fun i hi => h.own i hi, fun j hj => by
    rcases k.own j hj with h1 | h1
    · exact h.own j h1
    · exact .inr (Nat.le_trans hs h1)⟩
theorem rep_line (g base n c B : Nat) (A : Option Addr) (v : Value) (l : Bs) (xs : List ByteArray) (w : World) (hF : BA w g base v l) (hA : Rd w B 1 A n (xs.map Value.string)) (hB : B ≤ w.heap.size) (hn : n ≤ 1000000) (hc : n ≤ c)
    (hb : base ≤ w.heap.size) (hl : l.length ≤ 100000000) (hm : (xs.map (·.data.toList)).flatten.length ≤ 100000000) :
    Calls Tryz.prog 57 #[.slice A n c, .pointer (some ⟨g, 0, none⟩)] w fun e w' => e = .returned (.tuple #[]) ∧ (∃ v', BA w' g base v' (l ++ (xs.map (·.data.toList)).flatten ++ crlf)) ∧ Below base w w' := by
  have hJ := fun (w1 : World) (L : Below w.heap.size w w1) => asc_Join A n c B xs w1 (Nat.le_trans hB L.size) ((hA.below (L.mono hB))) hc (by omega) (by omega)
  go_enter Tryz.func57, Tryz.ntmps57
  obtain ⟨x0, z0⟩ := hF.blk.c1
  generalize (xs.map (·.data.toList)).flatten = m at *
  obtain ⟨lx, hlx⟩ : ∃ lx, lx = l ++ m ++ crlf := ⟨_, rfl⟩
  have HL := Lib.hid hlx.symm
  clear hlx
  go_wp2_with fail
  go_region_law (first
    | (go_simp; go_at_call 36; refine (hJ _ (Below.refl _ _).drew).mono ?_; rintro e w2 ⟨rfl, L2⟩; have N2 := stepW (Below.refl w.heap.size w).drew L2; have B2 := hF.belowW N2; obtain ⟨y0, y1⟩ := B2.blk.c1; have hs2 := N2.size)
    | (refine step_appT rfl (.tmp 3) (.tmp 5) rfl base v l rfl B2.own m rfl (by omega) (by omega) ?_; intro v3 w3 ho3 hx3; have hs3 := hx3.fr.size; have hb3 := (B2.blk.fr hx3.fr B2.ne).c1; obtain ⟨q0, q1⟩ := hb3)
    | (refine step_appT rfl (.tmp 6) (.const (.string ⟨#[13, 10]⟩)) rfl base v3 (l ++ m) rfl ho3 crlf rfl (by simp [crlf]; omega) (by omega) ?_; intro v4 w4 ho4 hx4; rw [HL.out] at ho4; have hx5 := hx3.two hx4 hs3; have hb4 := (B2.blk.fr hx5.fr B2.ne).c1; obtain ⟨r0, r1⟩ := hb4; obtain ⟨A4, c4, hv4, -, -, -⟩ := ho4.form; subst hv4))
  all_goals
    go_end0
    exact ⟨rfl, ⟨_, by rw [HL.out]; exact B2.app hx5 ho4⟩, B2.below (N2.mono hb) (by omega) hx5 _⟩
end Go.Proofs.YtlambdccmfnloaaGreatDoor
