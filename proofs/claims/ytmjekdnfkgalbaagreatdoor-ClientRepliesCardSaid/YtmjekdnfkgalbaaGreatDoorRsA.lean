/- Rows of responses in memory. -/
import Derived.Test.YtmjekdnfkgalbaaGreatDoorRfC
namespace Go.Proofs.YtmjekdnfkgalbaaGreatDoor
open Go.RowKit
set_option maxRecDepth 100000
set_option maxHeartbeats 4000000

def RsP.cells (x : RsP) : List Value := [.int .i64 x.r.st, .slice x.af x.r.f.length x.cf, .slice x.ab x.r.b.length x.cb, .slice x.ap x.r.p.length x.cp]
def spC : List RsP → List Value
  | [] => []
  | x :: l => x.cells ++ spC l
theorem RsP.len4 (x : RsP) : x.cells.length = 4 := rfl
theorem spC_len : ∀ l : List RsP, (spC l).length = l.length * 4
  | [] => rfl
  | x :: l => by rw [spC, List.length_append, spC_len l, x.len4, List.length_cons]; omega
theorem spC_app : ∀ a b : List RsP, spC (a ++ b) = spC a ++ spC b
  | [], b => rfl
  | x :: a, b => by rw [List.cons_append, spC, spC, spC_app a b, List.append_assoc]
theorem spC_take : ∀ (l : List RsP) (k : Nat), (spC l).take (k * 4) = spC (l.take k)
  | [], k => by simp [spC]
  | x :: l, 0 => by simp [spC]
  | x :: l, k + 1 => by
    rw [List.take_succ_cons, spC, spC, List.take_append, x.len4, List.take_of_length_le (by rw [x.len4]; omega), show (k + 1) * 4 - 4 = k * 4 by omega, spC_take l k]
theorem spC_at : ∀ (l : List RsP) (k : Nat) (x : RsP), l[k]? = some x → ∀ j, j < 4 → (spC l)[k * 4 + j]? = x.cells[j]?
  | [], k, x, h, j, _ => by simp at h
  | y :: l, 0, x, h, j, hj => by
    obtain rfl : y = x := by simpa using h
    rw [spC, Nat.zero_mul, Nat.zero_add, List.getElem?_append_left (by rw [y.len4]; exact hj)]
  | y :: l, k + 1, x, h, j, hj => by
    rw [spC, List.getElem?_append_right (by rw [y.len4]; omega), y.len4, show (k + 1) * 4 + j - 4 = k * 4 + j by omega]
    exact spC_at l k x (by simpa using h) j hj
theorem sp_one : ∀ (l : List RsP), ∀ u ∈ spC l, u.oneCell' = true
  | [], u, h => by cases h
  | x :: l, u, h => by
    rw [spC, List.mem_append] at h
    rcases h with h | h
    · simp only [RsP.cells, List.mem_cons, List.not_mem_nil, or_false] at h
      rcases h with h | h | h | h <;> subst h <;> rfl
    · exact sp_one l u h
/-- Its rows lie outside of X. -/
structure RsX (x : RsP) (X : Nat → Prop) : Prop where
  f : 0 < x.r.f.length → ∀ a, x.af = some a → ¬ X a.block
  b : 0 < x.r.b.length → ∀ a, x.ab = some a → ¬ X a.block
  p : 0 < x.r.p.length → ∀ a, x.ap = some a → ¬ X a.block
theorem RsX.mono {x : RsP} {X Y : Nat → Prop} (h : RsX x X) (hs : ∀ k, Y k → X k) : RsX x Y := ⟨fun h0 a ha hy => h.f h0 a ha (hs _ hy), fun h0 a ha hy => h.b h0 a ha (hs _ hy), fun h0 a ha hy => h.p h0 a ha (hs _ hy)⟩
theorem RsX.or {x : RsP} {X Y : Nat → Prop} (h : RsX x X) (k : RsX x Y) : RsX x (fun i => X i ∨ Y i) := ⟨fun h0 a ha hy => hy.elim (h.f h0 a ha) (k.f h0 a ha), fun h0 a ha hy => hy.elim (h.b h0 a ha) (k.b h0 a ha), fun h0 a ha hy => hy.elim (h.p h0 a ha) (k.p h0 a ha)⟩
theorem RsR.off {w : World} {x : RsP} {X : Nat → Prop} (h : RsR w x) (hX : ∀ k, X k → w.heap.size ≤ k) : RsX x X := ⟨h.rf.off hX, h.rb.off hX, h.rp.off hX⟩
theorem RsN.out {B : Nat} {x : RsP} {X : Nat → Prop} (h : RsN B x) (hX : ∀ k, X k → k < B) : RsX x X :=
  ⟨fun _ a ha hx => by have := h.1 a ha; have := hX _ hx; omega, fun _ a ha hx => by have := h.2.1 a ha; have := hX _ hx; omega, fun _ a ha hx => by have := h.2.2 a ha; have := hX _ hx; omega⟩
theorem RsR.fr {w w' : World} {x : RsP} {S : Nat → Prop} (h : RsR w x) (ho : RsX x S) (hf : Fr S w w') : RsR w' x :=
  ⟨(h.rf.frm (Nat.le_refl _) hf ho.f).more hf.size, (h.rb.frm (Nat.le_refl _) hf ho.b).more hf.size, (h.rp.frm (Nat.le_refl _) hf ho.p).more hf.size, h.cf, h.cb, h.cp⟩
/-- A row of responses that may be read. -/
structure RRs (w : World) (A : Option Addr) (n : Nat) (l : List RsP) : Prop where
  rd : Rd w w.heap.size 4 A n (spC l)
  rq : ∀ x ∈ l, RsR w x
namespace RRs
variable {w w' : World} {A : Option Addr} {n : Nat} {l : List RsP}
theorem len (h : RRs w A n l) : l.length = n := by have := h.rd.1; rw [spC_len] at this; omega
theorem belowW (h : RRs w A n l) (L : Below w.heap.size w w') : RRs w' A n l := ⟨(h.rd.belowW (Nat.le_refl _) L).more L.size, fun x hx => (h.rq x hx).belowW L⟩
theorem cut (h : RRs w A n l) {k : Nat} (hk : k ≤ n) : RRs w A k (l.take k) := by
  have h1 := h.rd.cutTo hk
  rw [spC_take] at h1
  exact ⟨h1, fun x hx => h.rq x (List.mem_of_mem_take hx)⟩
/-- A response of the row. -/
theorem at_ (h : RRs w A n l) {k : Nat} {x : RsP} (hx : l[k]? = some x) : ∃ b o, A = some ⟨b, o, none⟩ ∧ b < w.heap.size ∧ (w.cell? ⟨b, o + k * 4, none⟩ = some (.int .i64 x.r.st) ∧ w.cell? ⟨b, o + k * 4 + 1, none⟩ = some (.slice x.af x.r.f.length x.cf) ∧ w.cell? ⟨b, o + k * 4 + 2, none⟩ = some (.slice x.ab x.r.b.length x.cb) ∧ w.cell? ⟨b, o + k * 4 + 3, none⟩ = some (.slice x.ap x.r.p.length x.cp)) := by
  have hk : k < l.length := (List.getElem?_eq_some_iff.1 hx).1
  obtain ⟨b, o, e, hb, hc⟩ := h.rd.2 (by rw [h.len] at hk; omega)
  have key : ∀ j, j < 4 → ∀ u, x.cells[j]? = some u → w.cell? ⟨b, o + k * 4 + j, none⟩ = some u := fun j hj u hu => by
    have := hc (k * 4 + j) u (by rw [spC_at l k x hx j hj]; exact hu)
    rwa [← Nat.add_assoc] at this
  exact ⟨b, o, e, hb, key 0 (by decide) _ rfl, key 1 (by decide) _ rfl, key 2 (by decide) _ rfl, key 3 (by decide) _ rfl⟩
end RRs
/-- A row of responses that the call owns, and the rows of each lie elsewhere. -/
structure OSp (w : World) (base : Nat) (v : Value) (l : List RsP) : Prop where
  o : Own w base 38 4 v l.length (spC l)
  rq : ∀ x ∈ l, RsR w x
  out : ∀ x ∈ l, RsX x (fun k => v.ownBlock = some k)
namespace OSp
variable {w w' : World} {base : Nat} {v v' : Value} {l : List RsP}
theorem nil (w : World) (base : Nat) : OSp w base (.slice none 0 0) [] := ⟨Own.nil w base _ 4, fun _ h => (by cases h), fun _ h => (by cases h)⟩
theorem belowW (h : OSp w base v l) (L : Below w.heap.size w w') : OSp w' base v l := ⟨Own.belowW h.o L, fun x hx => (h.rq x hx).belowW L, h.out⟩
theorem form (h : OSp w base v l) : ∃ A c, v = .slice A l.length c ∧ l.length ≤ c ∧ c ≤ maxLen ∧ RRs w A l.length l := by
  obtain ⟨A, c, h1, h2, h3, h4, -⟩ := Own.rd h.o
  exact ⟨A, c, h1, h2, h3, h4, h.rq⟩
/-- One more, that lies elsewhere. -/
theorem app {x : RsP} (h : OSp w base v l) (hx : Ext w w' v v') (ho : Own w' base 38 4 v' (l ++ [x]).length (spC (l ++ [x]))) (hr : RsR w x) (hn : RsX x (fun k => v.ownBlock = some k)) : OSp w' base v' (l ++ [x]) := by
  have key : ∀ y, RsR w y → RsX y (fun k => v.ownBlock = some k) → RsR w' y ∧ RsX y (fun k => v'.ownBlock = some k) := fun y h1 h2 =>
    ⟨h1.fr h2 hx.fr, (h2.or (h1.off (X := fun k => w.heap.size ≤ k) fun _ h => h)).mono fun k hk => hx.own k hk⟩
  refine ⟨ho, fun y hy => ?_, fun y hy => ?_⟩
  · rcases List.mem_append.1 hy with h9 | h9
    · exact (key y (h.rq y h9) (h.out y h9)).1
    · obtain rfl : y = x := by simpa using h9
      exact (key y hr hn).1
  · rcases List.mem_append.1 hy with h9 | h9
    · exact (key y (h.rq y h9) (h.out y h9)).2
    · obtain rfl : y = x := by simpa using h9
      exact (key y hr hn).2
end OSp
theorem info_rs : (Tryz.prog.info? 38).map (fun i => (i.zero, i.size, i.bytes)) = some (some (.agg rsZ), 4, 80) := by kernel_rfl
/-- append(l, r). -/
theorem wp_appRs {ops : Array Oper} {rest : List Oper} {o : Oper} {a : Act} {Q : Exit → Act → World → Prop} {w0 w : World} (hgd : o.guard = none) (s x : Operand)
    (ho : o.op = .call { callee := .builtin .append, args := #[s, x], argTypes := #[24, 24] })
    (base : Nat) (v : Value) (l : List RsP) (hs : a.eval s = v) (hown : OSp w0 base v l) (hw : Below w0.heap.size w0 w) (A : Option Addr) (c B : Nat) (y : RsP) (hx : a.eval x = .slice A 1 c) (hr : Rd w B 4 A 1 (spC [y])) (hy : RsR w0 y) (hn : RsX y (fun k => v.ownBlock = some k))
    (hlen : l.length ≤ 1000000) (hbase : base ≤ w0.heap.size)
    (h : ∀ v' w', OSp w' base v' (l ++ [y]) → Ext w0 w' v v' → wpList Tryz.prog ops Q rest (a.put o.dst v') w') : wpList Tryz.prog ops Q (o :: rest) a w := by
  obtain ⟨i0, hi, hz0, hz1, hz2⟩ := info_parts info_rs
  refine wpList_append_Own w hgd s x 24 24 ho base 38 i0 _ 4 80 Tryz.underlying24 (.inl Tryz.underlying24) hi hz0 hz1 hz2 rfl (by decide) v l.length _ hs (Own.belowW hown.o hw) _ 1 _ hx (Src.of_rd hr (sp_one [y])) (by unfold maxLen; omega) (by omega) (Nat.le_trans hbase hw.size) ?_
  intro v' w' ho' hg ha
  have hE := ext_of hw hg ha
  refine h v' w' (hown.app hE ?_ hy hn) hE
  rw [← spC_app] at ho'
  rw [List.length_append, List.length_singleton]
  exact ho'
end Go.Proofs.YtmjekdnfkgalbaaGreatDoor
