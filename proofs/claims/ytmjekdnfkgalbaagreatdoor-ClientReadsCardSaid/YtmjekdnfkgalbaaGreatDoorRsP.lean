/- client: the responses of some bytes, in plain words. Rows of responses in memory. client.Replies. usherlaw26: responses. -/
import Derived.Test.YtmjekdnfkgalbaaGreatDoorRgJ
import Derived.Test.YtmjekdnfkgalbaaGreatDoorRfC
import Derived.Test.YtmjekdnfkgalbaaGreatDoorClient
import Derived.Deep.DeepCutAuto
import Derived.IntWalk
namespace Go.Proofs.YtmjekdnfkgalbaaGreatDoor
open Go.RowKit
set_option maxRecDepth 100000
set_option maxHeartbeats 4000000

/-- What is read at the beginning of some bytes. -/
def rdR (head : Bool) (r : Bs) : R3 (Rs × Bool) := (goL (r.length + 1) rl0 r).bind (bodR head)
theorem readR_eq (head : Bool) (r : Bs) : readR head r = readOf r (rdR head r) := rfl
theorem rdR_len (hd : Bool) (r : Bs) (a : Rs × Bool) (u : Bs) (h : rdR hd r = .ok a u) : u.length ≤ r.length ∧ a.1.f.length ≤ 24 ∧ a.1.b.length ≤ r.length ∧ a.1.p.length ≤ r.length := by
  unfold rdR at h
  rcases hg : goL (r.length + 1) rl0 r with _ | _ | ⟨x, t⟩
  · rw [hg] at h; cases h
  · rw [hg] at h; cases h
  · obtain ⟨h1, h2⟩ := go_le _ _ _ _ _ hg (by decide)
    rw [hg, R3.bind_ok, bodR] at h
    split at h
    · injection h with h3 h4
      subst h3; subst h4
      exact ⟨h2, h1, Nat.zero_le _, Nat.zero_le _⟩
    split at h
    · rcases hc : chkR (t.length + 1) [] [] t with _ | _ | ⟨y, v⟩
      · rw [hc] at h; cases h
      · rw [hc] at h; cases h
      · have := chk_le _ _ _ _ _ _ hc
        simp only [List.length_nil] at this
        rw [hc, R3.bind_ok] at h
        injection h with h3 h4
        subst h3; subst h4
        exact ⟨by omega, h1, by show y.1.length ≤ _; omega, by show y.2.length ≤ _; omega⟩
    split at h
    · cases h
    · injection h with h3 h4
      subst h3; subst h4
      refine ⟨by rw [List.length_drop]; omega, h1, ?_, Nat.zero_le _⟩
      show (t.take x.len).length ≤ _
      rw [List.length_take]; omega
theorem read_cases (hd : Bool) (r : Bs) (y : Rs) (cl : Bool) (k : Nat) (er : Int) (h : readR hd r = (y, cl, k, er)) :
    (er = 12 ∧ rdR hd r = .short) ∨ (er = 8 ∧ rdR hd r = .bad) ∨ (er = 0 ∧ ∃ t, rdR hd r = .ok (y, cl) t ∧ k = r.length - t.length ∧ t.length ≤ r.length) := by
  rw [readR_eq] at h
  rcases hx : rdR hd r with _ | _ | ⟨a, t⟩
  · rw [hx] at h
    injection h with h1 h2; injection h2 with h3 h4; injection h4 with h5 h6
    exact .inl ⟨h6.symm, rfl⟩
  · rw [hx] at h
    injection h with h1 h2; injection h2 with h3 h4; injection h4 with h5 h6
    exact .inr (.inl ⟨h6.symm, rfl⟩)
  · have hl := (rdR_len hd r a t hx).1
    rw [hx] at h
    injection h with h1 h2; injection h2 with h3 h4; injection h4 with h5 h6
    exact .inr (.inr ⟨h6.symm, t, by rw [← h1, ← h3], h5.symm, hl⟩)
/-- Words that a body may be sent are left out. -/
def skipW : Nat → Bs → Nat
  | 0, _ => 0
  | n + 1, b => if contW.isPrefixOf b then 25 + skipW n (b.drop 25) else 0
theorem skip_yes (n : Nat) (b : Bs) (h : contW.isPrefixOf b = true) : skipW (n + 1) b = 25 + skipW n (b.drop 25) := by rw [skipW, if_pos h]
theorem skip_no (n : Nat) (b : Bs) (h : contW.isPrefixOf b = false) : skipW n b = 0 := by
  cases n
  · rfl
  · rw [skipW, h]; rfl
theorem pfxQ_len (p b : Bs) (h : p.isPrefixOf b = true) : p.length ≤ b.length := by
  obtain ⟨t, rfl⟩ := List.isPrefixOf_iff_prefix.1 h
  rw [List.length_append]; omega
theorem skip_le : ∀ (n : Nat) (b : Bs), skipW n b ≤ b.length
  | 0, b => Nat.zero_le _
  | n + 1, b => by
    cases h : contW.isPrefixOf b
    · rw [skip_no _ _ h]; exact Nat.zero_le _
    · have h1 := pfxQ_len _ _ h
      have h2 := skip_le n (b.drop 25)
      rw [skip_yes _ _ h]
      rw [List.length_drop] at h2
      have h3 : contW.length = 25 := rfl
      omega
def headM : Bs := [72, 69, 65, 68]
/-- The responses, where they end, an error. -/
def repsL (b : Bs) : List Bs → Nat → List Rs → List Rs × Nat × Int
  | [], n, l => (l, n, 0)
  | m :: ms, n, l =>
    if (b.drop (n + skipW (b.length + 1) (b.drop n))).isPrefixOf contW then (l, n, 0)
    else match rdR (decide (m = headM)) (b.drop (n + skipW (b.length + 1) (b.drop n))) with
      | .short => (l, n, 0)
      | .bad => ([], 0, 8)
      | .ok a t => if a.2 then (l ++ [a.1], b.length - t.length, 0) else repsL b ms (b.length - t.length) (l ++ [a.1])
theorem reps_nil (b : Bs) (n : Nat) (l : List Rs) : repsL b [] n l = (l, n, 0) := by rw [repsL]
theorem reps_stop (b : Bs) (m : Bs) (ms : List Bs) (n q : Nat) (l : List Rs) (hq : n + skipW (b.length + 1) (b.drop n) = q) (h : (b.drop q).isPrefixOf contW = true ∨ rdR (decide (m = headM)) (b.drop q) = .short) : repsL b (m :: ms) n l = (l, n, 0) := by
  rw [repsL, hq]
  split
  · rfl
  · rename_i h1
    rcases h with h | h
    · exact absurd h h1
    · rw [h]
theorem reps_bad (b : Bs) (m : Bs) (ms : List Bs) (n q : Nat) (l : List Rs) (hq : n + skipW (b.length + 1) (b.drop n) = q) (h : (b.drop q).isPrefixOf contW = false) (h2 : rdR (decide (m = headM)) (b.drop q) = .bad) : repsL b (m :: ms) n l = ([], 0, 8) := by
  rw [repsL, hq, h, h2]; rfl
theorem reps_ok (b : Bs) (m : Bs) (ms : List Bs) (n q : Nat) (l : List Rs) (a : Rs) (cl : Bool) (t : Bs) (hq : n + skipW (b.length + 1) (b.drop n) = q) (h : (b.drop q).isPrefixOf contW = false) (h2 : rdR (decide (m = headM)) (b.drop q) = .ok (a, cl) t) :
    repsL b (m :: ms) n l = if cl then (l ++ [a], b.length - t.length, 0) else repsL b ms (b.length - t.length) (l ++ [a]) := by
  rw [repsL, hq, h, h2]; rfl
end Go.Proofs.YtmjekdnfkgalbaaGreatDoor
namespace Go.Proofs.YtmjekdnfkgalbaaGreatDoor
open Go.RowKit
set_option maxRecDepth 100000
set_option maxHeartbeats 4000000

def RsP.cells (x : RsP) : List Value := [.int .i64 x.r.st, .slice x.af x.r.f.length x.cf, .slice x.ab x.r.b.length x.cb, .slice x.ap x.r.p.length x.cp]
def spC : List RsP → List Value
  | [] => []
  | x :: l => x.cells ++ spC l
theorem RsP.len4 (x : RsP) : x.cells.length = 4 := rfl
theorem spC_len : ∀ l : List RsP, (spC l).length = l.length * 4
  | [] => rfl
  | x :: l => by rw [spC, List.length_append, spC_len l, x.len4, List.length_cons]; omega
theorem spC_app : ∀ a b : List RsP, spC (a ++ b) = spC a ++ spC b
  | [], b => rfl
  | x :: a, b => by rw [List.cons_append, spC, spC, spC_app a b, List.append_assoc]
theorem spC_take : ∀ (l : List RsP) (k : Nat), (spC l).take (k * 4) = spC (l.take k)
  | [], k => by simp [spC]
  | x :: l, 0 => by simp [spC]
  | x :: l, k + 1 => by
    rw [List.take_succ_cons, spC, spC, List.take_append, x.len4, List.take_of_length_le (by rw [x.len4]; omega), show (k + 1) * 4 - 4 = k * 4 by omega, spC_take l k]
theorem spC_at : ∀ (l : List RsP) (k : Nat) (x : RsP), l[k]? = some x → ∀ j, j < 4 → (spC l)[k * 4 + j]? = x.cells[j]?
  | [], k, x, h, j, _ => by simp at h
  | y :: l, 0, x, h, j, hj => by
    obtain rfl : y = x := by simpa using h
    rw [spC, Nat.zero_mul, Nat.zero_add, List.getElem?_append_left (by rw [y.len4]; exact hj)]
  | y :: l, k + 1, x, h, j, hj => by
    rw [spC, List.getElem?_append_right (by rw [y.len4]; omega), y.len4, show (k + 1) * 4 + j - 4 = k * 4 + j by omega]
    exact spC_at l k x (by simpa using h) j hj
theorem sp_one : ∀ (l : List RsP), ∀ u ∈ spC l, u.oneCell' = true
  | [], u, h => by cases h
  | x :: l, u, h => by
    rw [spC, List.mem_append] at h
    rcases h with h | h
    · simp only [RsP.cells, List.mem_cons, List.not_mem_nil, or_false] at h
      rcases h with h | h | h | h <;> subst h <;> rfl
    · exact sp_one l u h
/-- Its rows lie outside of X. -/
structure RsX (x : RsP) (X : Nat → Prop) : Prop where
  f : 0 < x.r.f.length → ∀ a, x.af = some a → ¬ X a.block
  b : 0 < x.r.b.length → ∀ a, x.ab = some a → ¬ X a.block
  p : 0 < x.r.p.length → ∀ a, x.ap = some a → ¬ X a.block
theorem RsX.mono {x : RsP} {X Y : Nat → Prop} (h : RsX x X) (hs : ∀ k, Y k → X k) : RsX x Y := ⟨fun h0 a ha hy => h.f h0 a ha (hs _ hy), fun h0 a ha hy => h.b h0 a ha (hs _ hy), fun h0 a ha hy => h.p h0 a ha (hs _ hy)⟩
theorem RsX.or {x : RsP} {X Y : Nat → Prop} (h : RsX x X) (k : RsX x Y) : RsX x (fun i => X i ∨ Y i) := ⟨fun h0 a ha hy => hy.elim (h.f h0 a ha) (k.f h0 a ha), fun h0 a ha hy => hy.elim (h.b h0 a ha) (k.b h0 a ha), fun h0 a ha hy => hy.elim (h.p h0 a ha) (k.p h0 a ha)⟩
theorem RsR.off {w : World} {x : RsP} {X : Nat → Prop} (h : RsR w x) (hX : ∀ k, X k → w.heap.size ≤ k) : RsX x X := ⟨h.rf.off hX, h.rb.off hX, h.rp.off hX⟩
theorem RsN.out {B : Nat} {x : RsP} {X : Nat → Prop} (h : RsN B x) (hX : ∀ k, X k → k < B) : RsX x X :=
  ⟨fun _ a ha hx => by have := h.1 a ha; have := hX _ hx; omega, fun _ a ha hx => by have := h.2.1 a ha; have := hX _ hx; omega, fun _ a ha hx => by have := h.2.2 a ha; have := hX _ hx; omega⟩
theorem RsR.fr {w w' : World} {x : RsP} {S : Nat → Prop} (h : RsR w x) (ho : RsX x S) (hf : Fr S w w') : RsR w' x :=
  ⟨(h.rf.frm (Nat.le_refl _) hf ho.f).more hf.size, (h.rb.frm (Nat.le_refl _) hf ho.b).more hf.size, (h.rp.frm (Nat.le_refl _) hf ho.p).more hf.size, h.cf, h.cb, h.cp⟩
/-- A row of responses that may be read. -/
structure RRs (w : World) (A : Option Addr) (n : Nat) (l : List RsP) : Prop where
  rd : Rd w w.heap.size 4 A n (spC l)
  rq : ∀ x ∈ l, RsR w x
namespace RRs
variable {w w' : World} {A : Option Addr} {n : Nat} {l : List RsP}
theorem len (h : RRs w A n l) : l.length = n := by have := h.rd.1; rw [spC_len] at this; omega
theorem belowW (h : RRs w A n l) (L : Below w.heap.size w w') : RRs w' A n l := ⟨(h.rd.belowW (Nat.le_refl _) L).more L.size, fun x hx => (h.rq x hx).belowW L⟩
theorem cut (h : RRs w A n l) {k : Nat} (hk : k ≤ n) : RRs w A k (l.take k) := by
  have h1 := h.rd.cutTo hk
  rw [spC_take] at h1
  exact ⟨h1, fun x hx => h.rq x (List.mem_of_mem_take hx)⟩
/-- A response of the row. -/
theorem at_ (h : RRs w A n l) {k : Nat} {x : RsP} (hx : l[k]? = some x) : ∃ b o, A = some ⟨b, o, none⟩ ∧ b < w.heap.size ∧ (w.cell? ⟨b, o + k * 4, none⟩ = some (.int .i64 x.r.st) ∧ w.cell? ⟨b, o + k * 4 + 1, none⟩ = some (.slice x.af x.r.f.length x.cf) ∧ w.cell? ⟨b, o + k * 4 + 2, none⟩ = some (.slice x.ab x.r.b.length x.cb) ∧ w.cell? ⟨b, o + k * 4 + 3, none⟩ = some (.slice x.ap x.r.p.length x.cp)) := by
  have hk : k < l.length := (List.getElem?_eq_some_iff.1 hx).1
  obtain ⟨b, o, e, hb, hc⟩ := h.rd.2 (by rw [h.len] at hk; omega)
  have key : ∀ j, j < 4 → ∀ u, x.cells[j]? = some u → w.cell? ⟨b, o + k * 4 + j, none⟩ = some u := fun j hj u hu => by
    have := hc (k * 4 + j) u (by rw [spC_at l k x hx j hj]; exact hu)
    rwa [← Nat.add_assoc] at this
  exact ⟨b, o, e, hb, key 0 (by decide) _ rfl, key 1 (by decide) _ rfl, key 2 (by decide) _ rfl, key 3 (by decide) _ rfl⟩
end RRs
/-- A row of responses that the call owns, and the rows of each lie elsewhere. -/
structure OSp (w : World) (base : Nat) (v : Value) (l : List RsP) : Prop where
  o : Own w base 38 4 v l.length (spC l)
  rq : ∀ x ∈ l, RsR w x
  out : ∀ x ∈ l, RsX x (fun k => v.ownBlock = some k)
namespace OSp
variable {w w' : World} {base : Nat} {v v' : Value} {l : List RsP}
theorem nil (w : World) (base : Nat) : OSp w base (.slice none 0 0) [] := ⟨Own.nil w base _ 4, fun _ h => (by cases h), fun _ h => (by cases h)⟩
theorem belowW (h : OSp w base v l) (L : Below w.heap.size w w') : OSp w' base v l := ⟨Own.belowW h.o L, fun x hx => (h.rq x hx).belowW L, h.out⟩
theorem form (h : OSp w base v l) : ∃ A c, v = .slice A l.length c ∧ l.length ≤ c ∧ c ≤ maxLen ∧ RRs w A l.length l := by
  obtain ⟨A, c, h1, h2, h3, h4, -⟩ := Own.rd h.o
  exact ⟨A, c, h1, h2, h3, h4, h.rq⟩
/-- One more, that lies elsewhere. -/
theorem app {x : RsP} (h : OSp w base v l) (hx : Ext w w' v v') (ho : Own w' base 38 4 v' (l ++ [x]).length (spC (l ++ [x]))) (hr : RsR w x) (hn : RsX x (fun k => v.ownBlock = some k)) : OSp w' base v' (l ++ [x]) := by
  have key : ∀ y, RsR w y → RsX y (fun k => v.ownBlock = some k) → RsR w' y ∧ RsX y (fun k => v'.ownBlock = some k) := fun y h1 h2 =>
    ⟨h1.fr h2 hx.fr, (h2.or (h1.off (X := fun k => w.heap.size ≤ k) fun _ h => h)).mono fun k hk => hx.own k hk⟩
  refine ⟨ho, fun y hy => ?_, fun y hy => ?_⟩
  · rcases List.mem_append.1 hy with h9 | h9
    · exact (key y (h.rq y h9) (h.out y h9)).1
    · obtain rfl : y = x := by simpa using h9
      exact (key y hr hn).1
  · rcases List.mem_append.1 hy with h9 | h9
    · exact (key y (h.rq y h9) (h.out y h9)).2
    · obtain rfl : y = x := by simpa using h9
      exact (key y hr hn).2
end OSp
theorem info_rs : (Tryz.prog.info? 38).map (fun i => (i.zero, i.size, i.bytes)) = some (some (.agg rsZ), 4, 80) := by kernel_rfl
/-- append(l, r). -/
theorem wp_appRs {ops : Array Oper} {rest : List Oper} {o : Oper} {a : Act} {Q : Exit → Act → World → Prop} {w0 w : World} (hgd : o.guard = none) (s x : Operand)
    (ho : o.op = .call { callee := .builtin .append, args := #[s, x], argTypes := #[24, 24] })
    (base : Nat) (v : Value) (l : List RsP) (hs : a.eval s = v) (hown : OSp w0 base v l) (hw : Below w0.heap.size w0 w) (A : Option Addr) (c B : Nat) (y : RsP) (hx : a.eval x = .slice A 1 c) (hr : Rd w B 4 A 1 (spC [y])) (hy : RsR w0 y) (hn : RsX y (fun k => v.ownBlock = some k))
    (hlen : l.length ≤ 1000000) (hbase : base ≤ w0.heap.size)
    (h : ∀ v' w', OSp w' base v' (l ++ [y]) → Ext w0 w' v v' → wpList Tryz.prog ops Q rest (a.put o.dst v') w') : wpList Tryz.prog ops Q (o :: rest) a w := by
  obtain ⟨i0, hi, hz0, hz1, hz2⟩ := info_parts info_rs
  refine wpList_append_Own w hgd s x 24 24 ho base 38 i0 _ 4 80 Tryz.underlying24 (.inl Tryz.underlying24) hi hz0 hz1 hz2 rfl (by decide) v l.length _ hs (Own.belowW hown.o hw) _ 1 _ hx (Src.of_rd hr (sp_one [y])) (by unfold maxLen; omega) (by omega) (Nat.le_trans hbase hw.size) ?_
  intro v' w' ho' hg ha
  have hE := ext_of hw hg ha
  refine h v' w' (hown.app hE ?_ hy hn) hE
  rw [← spC_app] at ho'
  rw [List.length_append, List.length_singleton]
  exact ho'
end Go.Proofs.YtmjekdnfkgalbaaGreatDoor
namespace Go.Proofs.YtmjekdnfkgalbaaGreatDoor
open Go.RowKit
set_option maxRecDepth 100000
set_option maxHeartbeats 4000000

theorem rd_none {w : World} {B n : Nat} {A : Option Addr} {l : Bs} (h : Rd w B 1 A n (l.map bv)) : A = none → l = [] := by
  intro hA
  have h1 : l.length = n := by simpa using h.1
  by_cases h0 : 0 < n
  · obtain ⟨g, o, e, -⟩ := h.2 h0
    rw [hA] at e; cases e
  · exact List.eq_nil_of_length_eq_zero (by omega)
theorem bytes_in {w : World} {B n : Nat} {A : Option Addr} {l : Bs} (h : Rd w B 1 A n (l.map bv)) : Lib.BytesIn w A n (l.map fun c => (c.toNat : Int)) := by
  intro h0
  obtain ⟨g, o, e, -, hc⟩ := h.2 h0
  have h1 : l.length = n := by simpa using h.1
  refine ⟨g, o, e, fun i hi => ?_⟩
  have hi' : i < l.length := by omega
  rw [hc i (bv l[i]) (by rw [List.getElem?_map, List.getElem?_eq_getElem hi']; rfl)]
  simp [List.getD, hi', bv]
theorem bytes_of (l : Bs) : Lib.bytesOf (l.map fun c => (c.toNat : Int)) = l := by
  unfold Lib.bytesOf
  rw [List.map_map]
  refine (List.map_congr_left (g := id) fun c _ => ?_).trans (List.map_id l)
  simp
theorem lib_Pref (A1 A2 : Option Addr) (l m : Bs) (c d : Nat) (w : World) (h1 : Rd w w.heap.size 1 A1 l.length (l.map bv)) (h2 : Rd w w.heap.size 1 A2 m.length (m.map bv)) (hc : l.length ≤ c) :
    Calls Tryz.prog 22 #[.slice A1 l.length c, .slice A2 m.length d] w fun e w' => e = .returned (.bool (m.isPrefixOf l)) ∧ w = w' := by
  refine (Tryz.bytes_HasPrefix_all A1 A2 l.length c m.length d (l.map fun c => (c.toNat : Int)) (m.map fun c => (c.toNat : Int)) w (by simp) (by simp) hc (bytes_in h1) (bytes_in h2)).mono ?_
  rintro e w' ⟨rfl, rfl⟩
  rw [bytes_of, bytes_of]
  exact ⟨rfl, rfl⟩
theorem OSp.fin {w : World} {base : Nat} {A : Option Addr} {c : Nat} {l : List RsP} (h : OSp w base (.slice A l.length c) l) : l.length ≤ c ∧ RRs w A l.length l := by
  obtain ⟨A', c', e, h1, -, h2⟩ := h.form
  injection e with e1 _ e2
  subst e1; subst e2
  exact ⟨h1, h2⟩
theorem RRs.nil (w : World) : RRs w none 0 [] := ⟨Rd.nil _ _ _ _, fun _ h => (by cases h)⟩
/-- Responses that were read, in memory. -/
def RepsPost (w : World) (r : List Rs × Nat × Int) (e : Ending) (w' : World) : Prop :=
  ∃ (A : Option Addr) (c : Nat) (l : List RsP), e = .returned (.tuple #[.slice A l.length c, .int .i64 (r.2.1 : Int), .int .i64 r.2.2]) ∧ l.map (·.r) = r.1 ∧ l.length ≤ c ∧ RRs w' A l.length l ∧ Below w.heap.size w w'
theorem cl_Replies (A : Option Addr) (c : Nat) (b : Bs) (Am : Option Addr) (cm : Nat) (ms : List Bs) (w : World) (hr : Rd w w.heap.size 1 A b.length (b.map bv)) (hc : b.length ≤ c) (hb : b.length ≤ 999999)
    (hm : Rd w w.heap.size 1 Am ms.length (ms.map tv)) (_hmc : ms.length ≤ cm) (hml : ms.length ≤ 1000) :
    Calls Tryz.prog 7 #[.slice A b.length c, .slice Am ms.length cm] w (RepsPost w (repsL b ms 0 [])) := by
  obtain ⟨R0, hR0⟩ : ∃ R0, repsL b ms 0 [] = R0 := ⟨_, rfl⟩
  rw [hR0]
  have HR0 := Lib.hid hR0
  clear hR0
  go_enter Tryz.func7, Tryz.ntmps7
  go_wp2_with fail
  go_loopw [18, 7, 8] (fun i v n wr => ∃ (k : Nat) (l : List RsP) (m : Nat), i = .int .i64 k ∧ k ≤ ms.length ∧ m ≤ b.length ∧ n = .int .i64 m ∧ l.length ≤ k ∧ OSp wr w.heap.size v l ∧ Below w.heap.size w wr ∧ Hid (R0 = repsL b (ms.drop k) m (l.map (·.r)))) (fun i _ _ _ => ms.length - (intOf i).toNat)
  case atStart => exact ⟨0, [], 0, rfl, Nat.zero_le _, Nat.zero_le _, rfl, Nat.le_refl _, OSp.nil _ _, Below.refl _ _, HR0.out.symm⟩
  case round =>
    obtain ⟨k, l, m, rfl, hk, hmb, rfl, hlk, OS, LB, HF⟩ := hrel
    obtain ⟨Ar, cr, rfl, hcr, -, RR⟩ := OS.form
    by_cases hkl : k < ms.length
    · have hkl2 : (k : Int) < (ms.length : Int) := by omega
      obtain ⟨mk, hmk⟩ : ∃ mk, ms[k]? = some mk := ⟨_, List.getElem?_eq_getElem hkl⟩
      obtain ⟨g0, o0, rfl, hg0, y0⟩ := (hm.below LB).tx k mk hmk
      have hdk : ms.drop k = mk :: ms.drop (k + 1) := by
        obtain ⟨h3, h4⟩ := List.getElem?_eq_some_iff.1 hmk
        rw [List.drop_eq_getElem_cons h3, h4]
      rw [hdk] at HF
      have HKL := Lib.hid hkl
      clear hkl hmk hdk
      obtain ⟨W1, rfl⟩ : ∃ W1, W1 = wr := ⟨_, rfl⟩
      go_wp2_with fail
      go_loopw [11] (fun v ww => ∃ (f q : Nat), q ≤ b.length ∧ v = .int .i64 q ∧ b.length - q < f ∧ Hid (m + skipW (b.length + 1) (b.drop m) = q + skipW f (b.drop q)) ∧ Below W1.heap.size W1 ww) (fun v _ => b.length - (intOf v).toNat)
      case atStart => exact ⟨b.length + 1, m, hmb, rfl, by omega, rfl, Below.refl _ _⟩
      case round =>
        obtain ⟨f, q, hqb, rfl, hqf, HQ, LQ⟩ := hrel
        have N2 := stepW LB LQ
        have hrq := hr.below N2
        obtain ⟨A1, c1, hc1, hs1, hrd1⟩ := from_rule c q hrq hqb hc
        obtain ⟨D, hD⟩ : ∃ D, D = b.drop q := ⟨_, rfl⟩
        have hDl : D.length = b.length - q := by rw [hD, List.length_drop]
        rw [← hD] at HQ hrd1
        rw [← hDl] at hs1 hrd1 hc1 hqf
        have HD := Lib.hid hD
        have HDL := Lib.hid hDl
        clear hD hDl
        have hPf := fun (w3 : World) (h : Below wr.heap.size wr w3) (g c3 : Nat) (hO : Rd w3 w3.heap.size 1 (some ⟨g, 0, none⟩) 25 (contW.map bv)) => lib_Pref A1 (some ⟨g, 0, none⟩) D contW c1 c3 w3 ((hrd1.more (Nat.le_trans N2.size (Nat.le_refl _))).belowW (Nat.le_refl _) h |>.more h.size) hO hc1
        obtain ⟨T, hT⟩ : ∃ T, contW.isPrefixOf D = T := ⟨_, rfl⟩
        rw [hT] at hPf
        have HT := Lib.hid hT
        clear hT
        go_upto_region 7 with (fail)
        go_cut [27] (fun v27 wx => v27 = .bool T ∧ Below wr.heap.size wr wx)
        case first =>
          go_region_with (first
            | (go_at_call 23; refine (rep_Cont _).mono ?_; rintro e w3 ⟨c3, rfl, hc3, hO3, L3⟩; have M3 := stepW (below_drewN' (Below.refl wr.heap.size wr) _) L3)
            | (go_at_call 22; refine (hPf _ M3 _ _ (Own.rdS hO3).2.2).mono ?_; rintro e w4 ⟨rfl, rfl⟩))
          go_wp2_with fail
          go_meet
          case rel => exact ⟨rfl, M3⟩
        case rest =>
          obtain ⟨rfl, L9⟩ := hcut
          obtain ⟨W2, rfl⟩ : ∃ W2, W2 = wc := ⟨_, rfl⟩
          have M9 := stepW LQ L9
          clear hPf hs1 hrd1 hc1 hrq N2
          cases T
          · have HQ2 := Lib.hid (show m + skipW (b.length + 1) (b.drop m) = q by rw [HQ.out, skip_no _ _ HT.out]; rfl)
            clear HQ hqf
            have N9 := stepW LB M9
            have OS9 := OS.belowW M9
            obtain ⟨A1, c1, hc1, hs1, hrd1⟩ := from_rule c q (hr.below N9) hqb hc
            rw [← HD.out, ← HDL.out] at hrd1
            rw [← HDL.out] at hs1 hc1
            obtain ⟨hd, hhd⟩ : ∃ hd, (mk == [72, 69, 65, 68]) = hd := ⟨_, rfl⟩
            have HHD := Lib.hid (show decide (mk = headM) = hd by
              rw [← hhd]
              by_cases h : mk = headM
              · rw [decide_eq_true h, h]; rfl
              · rw [decide_eq_false h]; symm; simpa [headM] using h)
            have hRd := rep_ReadN A1 c1 D hd W2 ((hrd1).more N9.size) (rd_none hrd1) (by have := HDL.out; omega)
            rw [← read_same] at hRd
            have HRC := Lib.hid (read_cases hd D)
            obtain ⟨R, hR⟩ : ∃ R, readR hd D = R := ⟨_, rfl⟩
            rw [hR] at hRd HRC
            obtain ⟨y, cl, kk, er⟩ := R
            clear hR
            go_wp2_with fail
            refine hRd.mono ?_
            rintro e w3 ⟨⟨xr, Af, cf, Ab, cb, Ap, cp⟩, rfl, hxr, RX, RN, L3⟩
            dsimp only at hxr
            subst hxr
            dsimp only
            have N3 := stepW N9 L3
            have OS3 := OS9.belowW L3
            have hOut : RsX ⟨xr, Af, cf, Ab, cb, Ap, cp⟩ (fun k => (Value.slice Ar l.length cr).ownBlock = some k) := RN.out fun k hk => Own.lt2 OS9.o hk
            clear hRd OS OS9 RN L9 M9 LQ LB
            obtain ⟨V, hV⟩ : ∃ V, V = w3.alloc (.cells #[.int .i64 xr.st, .slice Af xr.f.length cf, .slice Ab xr.b.length cb, .slice Ap xr.p.length cp] 38) := ⟨_, rfl⟩
            have BV : Blk V w3.heap.size 38 #[.int .i64 xr.st, .slice Af xr.f.length cf, .slice Ab xr.b.length cb, .slice Ap xr.p.length cp] := by rw [hV]; exact Blk.new' _ _ rfl _ _
            have LV : Below w3.heap.size w3 V := by rw [hV]; exact allocW (Below.refl _ _) _
            have NV := stepW N3 LV
            have OSV := OS3.belowW LV
            have RXV := RX.belowW LV
            have hrdV := (((hrd1.more N9.size).belowW (Nat.le_refl _) L3).more L3.size |>.belowW (Nat.le_refl _) LV).more LV.size
            clear OS3 RX N3
            go_upto_region 10 with (fail)
            rw [← hV]
            clear hV
            obtain ⟨pf, hpf⟩ : ∃ pf, D.isPrefixOf contW = pf := ⟨_, rfl⟩
            have HPF := Lib.hid hpf
            have hPg := fun (w3 : World) (h : Below V.heap.size V w3) (g c3 : Nat) (hO : Rd w3 w3.heap.size 1 (some ⟨g, 0, none⟩) 25 (contW.map bv)) (hc3 : 25 ≤ c3) => lib_Pref (some ⟨g, 0, none⟩) A1 contW D c3 c1 w3 hO ((hrdV.belowW (Nat.le_refl _) h).more h.size) hc3
            rw [hpf] at hPg
            clear hpf
            go_cut [51] (fun v51 wx => v51 = .bool (decide (er = 12) || pf) ∧ Below V.heap.size V wx)
            case first =>
              by_cases h12 : er = 12
              · have q1 : (er == 12) = true := by simpa using h12
                have HV := Lib.hid (show (decide (er = 12) || pf) = true by rw [decide_eq_true h12]; rfl)
                clear hPg HRC q1
                subst h12
                first | go_quiet (fail) | go_region_with (fail) | go_region
                go_wp2_with fail
                go_meet
                case rel => first | exact ⟨by rw [HV.out], Below.refl _ _⟩ | exact ⟨by rw [HV.out], below_drewN' (Below.refl _ _) _⟩
              · have q1 : (er == 12) = false := by simpa using h12
                have HV := Lib.hid (show (decide (er = 12) || pf) = pf by rw [decide_eq_false h12]; rfl)
                have q2 : decide (er = 12) = false := decide_eq_false h12
                clear HRC
                go_region_with (first
                  | (go_at_call 23; refine (rep_Cont _).mono ?_; rintro e w4 ⟨c4, rfl, hc4, hO4, L4⟩; have M4 := stepW (below_drewN' (Below.refl V.heap.size V) _) L4)
                  | (go_at_call 22; refine (hPg _ M4 _ _ (Own.rdS hO4).2.2 hc4).mono ?_; rintro e w5 ⟨rfl, rfl⟩))
                go_wp2_with fail
                go_meet
                case rel => exact ⟨by rw [HV.out], M4⟩
            case rest =>
              obtain ⟨rfl, L5⟩ := hcut
              obtain ⟨W5, rfl⟩ : ∃ W5, W5 = wc := ⟨_, rfl⟩
              have N5 := stepW NV L5
              have OS5 := OSV.belowW L5
              have B5 := BV.belowW L5
              have RX5 := RXV.belowW L5
              clear hPg hs1 hc1 hrd1 hrdV OSV BV RXV L5 LV
              rcases HRC.out xr cl kk er rfl with ⟨rfl, hx⟩ | ⟨rfl, hx⟩ | ⟨rfl, t, hx, hkk, htl⟩
              · have HF2 := Lib.hid (HF.out.trans (reps_stop b mk _ m q _ HQ2.out (.inr (by rw [HHD.out, ← HD.out]; exact hx))))
                clear hx HRC HF
                rw [show (decide ((12 : Int) = 12) || pf) = true from rfl]
                go_wp2_with fail
                exact bodyPost_ret (v := .tuple #[.slice Ar l.length cr, .int .i64 (m : Int), .int .i64 0]) (by simp [results, Tryz.results7, go_sem]) rfl ⟨Ar, cr, l, by rw [HF2.out], by rw [HF2.out], OS5.fin.1, OS5.fin.2, N5⟩
              · rw [show (decide ((8 : Int) = 12) || pf) = pf from rfl]
                cases pf
                · have HF2 := Lib.hid (HF.out.trans (reps_bad b mk _ m q _ HQ2.out (by rw [← HD.out]; exact HPF.out) (by rw [HHD.out, ← HD.out]; exact hx)))
                  clear hx HRC HF
                  go_wp2_with fail
                  exact bodyPost_ret (v := .tuple #[.slice none 0 0, .int .i64 0, .int .i64 8]) (by simp [results, Tryz.results7, go_sem]) rfl ⟨none, 0, [], by rw [HF2.out]; rfl, by rw [HF2.out]; rfl, Nat.le_refl _, RRs.nil _, N5⟩
                · have HF2 := Lib.hid (HF.out.trans (reps_stop b mk _ m q _ HQ2.out (.inl (by rw [← HD.out]; exact HPF.out))))
                  clear hx HRC HF
                  go_wp2_with fail
                  exact bodyPost_ret (v := .tuple #[.slice Ar l.length cr, .int .i64 (m : Int), .int .i64 0]) (by simp [results, Tryz.results7, go_sem]) rfl ⟨Ar, cr, l, by rw [HF2.out], by rw [HF2.out], OS5.fin.1, OS5.fin.2, N5⟩
              · rw [show (decide ((0 : Int) = 12) || pf) = pf from rfl]
                cases pf
                · have HF2 := Lib.hid (HF.out.trans (reps_ok b mk _ m q _ xr cl t HQ2.out (by rw [← HD.out]; exact HPF.out) (by rw [HHD.out, ← HD.out]; exact hx)))
                  have hdl := HDL.out
                  have hwk : IntKind.i64.wrap ((q : Int) + (kk : Int)) = ((b.length - t.length : Nat) : Int) := by
                    rw [IntWalk.i64_in _ (by omega)]; omega
                  have htb : b.length - t.length ≤ b.length := by omega
                  obtain ⟨j0, j1, j2, j3, -, -, -, -⟩ := B5.c4
                  have hb5 : w.heap.size ≤ W5.heap.size := N5.size
                  clear hx HRC HF hkk htl
                  go_upto_region 14 with (at_builtin; refine wp_appRs rfl (.tmp 55) (.tmp 57) rfl w.heap.size (.slice Ar l.length cr) l rfl OS5 (allocW (Below.refl W5.heap.size W5) _) (some ⟨W5.heap.size, 0, none⟩) 1 _ ⟨xr, Af, cf, Ab, cb, Ap, cp⟩ rfl (Rd.new W5 _ rfl _ _ 1 4 rfl) RX5 hOut (by omega) hb5 ?_; intro v' w7 ho7 hx7; obtain ⟨A7, c7, hv7, -, -, -⟩ := ho7.form; subst hv7)
                  have N7 := N5.trans (hx7.below OS5.o (Nat.le_refl _) hb5)
                  have hl1 : (l ++ [(⟨xr, Af, cf, Ab, cb, Ap, cp⟩ : RsP)]).map (·.r) = l.map (·.r) ++ [xr] := by rw [List.map_append]; rfl
                  rw [← hl1] at HF2
                  have hl2 : (l ++ [(⟨xr, Af, cf, Ab, cb, Ap, cp⟩ : RsP)]).length = l.length + 1 := by rw [List.length_append]; rfl
                  generalize l ++ [(⟨xr, Af, cf, Ab, cb, Ap, cp⟩ : RsP)] = l9 at *
                  clear hx7 hl1 j0 j1 j2 j3
                  have HL2 := Lib.hid hl2
                  have ho8 : OSp w7 w.heap.size (.slice A7 (l.length + 1) c7) l9 := by rw [← hl2]; exact ho7
                  clear hl2
                  cases cl
                  · have HF3 := Lib.hid (HF2.out.trans (if_neg (by decide)))
                    go_wp2_with fail
                    go_roundw
                    case rel => exact ⟨k + 1, l9, b.length - t.length, by go_num, HKL.out, htb, rfl, by have := HL2.out; omega, ho8, N7, HF3⟩
                    case measure => simp only [intOf]; have := HKL.out; omega
                  · have HF3 := Lib.hid (HF2.out.trans (if_pos rfl))
                    go_wp2_with fail
                    exact bodyPost_ret (v := .tuple #[.slice A7 (l.length + 1) c7, .int .i64 ((b.length - t.length : Nat) : Int), .int .i64 0]) (by simp [results, Tryz.results7, go_sem]) rfl ⟨A7, c7, l9, by rw [HF3.out, HL2.out], by rw [HF3.out], ho7.fin.1, ho7.fin.2, N7⟩
                · have HF2 := Lib.hid (HF.out.trans (reps_stop b mk _ m q _ HQ2.out (.inl (by rw [← HD.out]; exact HPF.out))))
                  clear hx HRC HF hkk htl
                  go_wp2_with fail
                  exact bodyPost_ret (v := .tuple #[.slice Ar l.length cr, .int .i64 (m : Int), .int .i64 0]) (by simp [results, Tryz.results7, go_sem]) rfl ⟨Ar, cr, l, by rw [HF2.out], by rw [HF2.out], OS5.fin.1, OS5.fin.2, N5⟩
          · obtain ⟨f, rfl⟩ : ∃ f', f = f' + 1 := ⟨f - 1, by omega⟩
            have h25 := pfxQ_len _ _ HT.out
            have h25' : contW.length = 25 := rfl
            have HQ2 := Lib.hid (show m + skipW (b.length + 1) (b.drop m) = (q + 25) + skipW f (b.drop (q + 25)) by rw [HQ.out, skip_yes _ _ HT.out, HD.out, List.drop_drop]; omega)
            have hdl := HDL.out
            have hw25 : IntKind.i64.wrap ((q : Int) + 25) = (((q + 25 : Nat)) : Int) := by rw [IntWalk.i64_in _ (by omega)]; omega
            clear HQ
            go_wp2_with fail
            refine (rep_Cont _).mono ?_
            rintro e w3 ⟨c3, rfl, hc3, hO3, L3⟩
            go_wp2_with fail
            go_roundw
            case rel => exact ⟨f, q + 25, by omega, rfl, by omega, HQ2, stepW M9 L3⟩
            case measure => simp only [intOf]; omega
    · have hkl2 : ¬ (k : Int) < (ms.length : Int) := by omega
      obtain rfl : k = ms.length := by omega
      rw [List.drop_of_length_le (Nat.le_refl _), reps_nil] at HF
      clear hkl
      go_wp2_with fail
      exact bodyPost_ret (v := .tuple #[.slice Ar l.length cr, .int .i64 (m : Int), .int .i64 0]) (by simp [results, Tryz.results7, go_sem]) rfl ⟨Ar, cr, l, by rw [HF.out], by rw [HF.out], hcr, RR, LB⟩
end Go.Proofs.YtmjekdnfkgalbaaGreatDoor
namespace Go.Proofs.YtmjekdnfkgalbaaGreatDoor
open Go.RowKit
set_option maxRecDepth 100000
set_option maxHeartbeats 4000000

theorem law_fieldsR (A1 : Option Addr) (n1 c1 : Nat) (l1 : List Fd) (A2 : Option Addr) (n2 c2 : Nat) (l2 : List Fd) (w : World) (h1 : Rd w w.heap.size 2 A1 n1 (fcells l1)) (h2 : Rd w w.heap.size 2 A2 n2 (fcells l2)) (hn : n1 ≤ maxLen) :
    Calls Tryz.prog 51 #[.slice A1 n1 c1, .slice A2 n2 c2] w fun e w' => e = .returned (.bool (decide (l1 = l2))) ∧ Below w.heap.size w w' := by
  unfold maxLen at hn
  have e1 : l1.length = n1 := by have := h1.1; rw [fcells_len] at this; omega
  have e2 : l2.length = n2 := by have := h2.1; rw [fcells_len] at this; omega
  go_enter Tryz.func51, Tryz.ntmps51
  go_wp2
  · go_ret
    have hq := neT ‹((n1 : Int) != n2) = true›
    exact ⟨retB (by rw [eq_comm, decide_eq_false_iff_not]; intro h; subst h; omega), Below.refl _ _⟩
  · have hq := neF ‹((n1 : Int) != n2) = false›
    have hq : n1 = n2 := by omega
    by_cases hz : n1 = 0
    · have z1 : l1 = [] := List.eq_nil_of_length_eq_zero (by omega)
      have z2 : l2 = [] := List.eq_nil_of_length_eq_zero (by omega)
      go_loopw [5] (fun i wr => i = .int .i64 0 ∧ Below w.heap.size w wr) (fun i _ => 0)
      case atStart => exact ⟨rfl, Below.refl _ _⟩
      case round =>
        obtain ⟨rfl, hb⟩ := hrel
        go_wp2
        go_ret
        exact ⟨retB (by rw [z1, z2]; rfl), hb⟩
    · obtain ⟨b1, o1, rfl, hb1, hx1⟩ := h1.2 (by omega)
      obtain ⟨b2, o2, rfl, hb2, hx2⟩ := h2.2 (by omega)
      clear h1 h2
      go_loopw [5] (fun i wr => ∃ k q : Nat, k ≤ n1 ∧ i = .int .i64 k ∧ Hid ((l1 = l2) = (l1.drop k = l2.drop k)) ∧ wr = w.drewN q) (fun i _ => n1 - (intOf i).toNat)
      case atStart => exact ⟨0, 0, Nat.zero_le _, rfl, rfl, rfl⟩
      case round =>
        obtain ⟨k, q, hk, rfl, H, rfl⟩ := hrel
        by_cases hlt : k < n1
        · obtain ⟨x, hx, hdx⟩ := drop_list l1 k (by omega)
          obtain ⟨y, hy, hdy⟩ := drop_list l2 k (by omega)
          have Hx := Lib.hid hdx; clear hdx
          have Hy := Lib.hid hdy; clear hdy
          obtain ⟨cx0, cx1⟩ := fcells_at _ _ _ hx; have cx := hx1 (k * 2) _ cx0; have cx' := hx1 (k * 2 + 1) _ cx1; rw [← Nat.add_assoc] at cx'
          obtain ⟨cy0, cy1⟩ := fcells_at _ _ _ hy; have cy := hx2 (k * 2) _ cy0; have cy' := hx2 (k * 2 + 1) _ cy1; rw [← Nat.add_assoc] at cy'
          have kn := fun w : World => run_neq_fd x.1 x.2 y.1 y.2 w
          have kg := fun (o : Operand) (o' : Operand) (w : World) => run_guard_fd .neq o o' #[sv x.1, sv x.2] #[sv y.1, sv y.2] w
          go_wp2
          go_quiet (fail)
          go_wp2
          · go_ret
            refine ⟨retB ?_, below_drewN' (below_drewN' (Below.refl _ _) _) _⟩
            have ht : ¬ x = y := by rintro rfl; have := notT ‹(!fdEq x.1 x.2 x.1 x.2) = true›; simp [fdEq] at this
            rw [eq_comm, decide_eq_false_iff_not, H.out, Hx.out, Hy.out]
            simp [ht]
          · go_roundw
            case rel => exact ⟨k + 1, q + nq, by omega, by go_num, by rw [H.out, Hx.out, Hy.out]; have ht : x = y := (by have := notF ‹(!fdEq x.1 x.2 y.1 y.2) = false›; simpa [fdEq, Prod.ext_iff] using this); simp only [ht, true_and, List.cons.injEq]; exact Lib.hid trivial, by simp [World.drewN]⟩
            case measure => simp [intOf]; omega
        · go_wp2
          go_ret
          refine ⟨retB ?_, below_drewN' (Below.refl _ _) _⟩
          rw [eq_comm, decide_eq_true_eq, H.out, List.drop_of_length_le (by omega), List.drop_of_length_le (by omega)]

theorem law_intsR (A1 : Option Addr) (n1 c1 : Nat) (A2 : Option Addr) (n2 c2 : Nat) (l : List Int) (w : World) (h1 : Rd w w.heap.size 1 A1 n1 (l.map (Value.int .i64))) (h2 : Rd w w.heap.size 1 A2 n2 (l.map (Value.int .i64))) (hn : n1 ≤ 100000) :
    Calls Tryz.prog 52 #[.slice A1 n1 c1, .slice A2 n2 c2] w fun e w' => e = .returned (.bool true) ∧ Below w.heap.size w w' := by
  have e1 : l.length = n1 := by simpa using h1.1
  have e2 : l.length = n2 := by simpa using h2.1
  obtain rfl : n1 = n2 := by omega
  go_enter Tryz.func52, Tryz.ntmps52
  go_wp2
  go_loopw [5] (fun i wr => ∃ k q : Nat, k ≤ n1 ∧ i = .int .i64 k ∧ wr = w.drewN q) (fun i _ => n1 - (intOf i).toNat)
  case atStart => exact ⟨0, 0, Nat.zero_le _, rfl, rfl⟩
  case round =>
    obtain ⟨k, q, hk, rfl, rfl⟩ := hrel
    by_cases hlt : k < n1
    · obtain ⟨x, hx, -⟩ := drop_list l k (by omega)
      obtain ⟨b1, o1, rfl, hb1, hx1⟩ := h1.2 (by omega)
      obtain ⟨b2, o2, rfl, hb2, hx2⟩ := h2.2 (by omega)
      have cx := hx1 k (.int .i64 x) (map_get _ _ _ _ hx)
      have cy := hx2 k (.int .i64 x) (map_get _ _ _ _ hx)
      clear hx hx1 hx2
      go_wp2
      go_quiet (fail)
      go_wp2
      go_roundw
      case rel => exact ⟨k + 1, q + nq, by omega, by go_num, by simp [World.drewN]⟩
      case measure => simp [intOf]; omega
    · go_wp2
      go_ret
      exact ⟨rfl, below_drewN' (Below.refl _ _) q⟩
theorem law_responseR (r : Rs) (A1 A2 B1 B2 P1 P2 : Option Addr) (c1 c2 d1 d2 e1 e2 : Nat) (w : World) (h1 : RsR w ⟨r, A1, c1, B1, d1, P1, e1⟩) (h2 : RsR w ⟨r, A2, c2, B2, d2, P2, e2⟩) (hf : r.f.length ≤ 100000) (hb : r.b.length ≤ 100000) (hp : r.p.length ≤ 100000) :
    Calls Tryz.prog 24 #[rsW ⟨r, A1, c1, B1, d1, P1, e1⟩, rsW ⟨r, A2, c2, B2, d2, P2, e2⟩] w fun e w' => e = .returned (.bool true) ∧ Below w.heap.size w w' := by
  obtain ⟨st, F, B, P⟩ := r
  dsimp only at hf hb hp
  show Calls Tryz.prog 24 #[.agg #[.int .i64 st, .slice A1 F.length c1, .slice B1 B.length d1, .slice P1 P.length e1], .agg #[.int .i64 st, .slice A2 F.length c2, .slice B2 B.length d2, .slice P2 P.length e2]] w fun e w' => e = .returned (.bool true) ∧ Below w.heap.size w w'
  have L2 := allocW (allocW (Below.refl w.heap.size w) (.cells #[.int .i64 st, .slice A1 F.length c1, .slice B1 B.length d1, .slice P1 P.length e1] 38)) (.cells #[.int .i64 st, .slice A2 F.length c2, .slice B2 B.length d2, .slice P2 P.length e2] 38)
  have K1 := (Blk.new w 38 #[.int .i64 st, .slice A1 F.length c1, .slice B1 B.length d1, .slice P1 P.length e1]).alloc (.cells #[.int .i64 st, .slice A2 F.length c2, .slice B2 B.length d2, .slice P2 P.length e2] 38)
  have K2 := Blk.new' (w.alloc (.cells #[.int .i64 st, .slice A1 F.length c1, .slice B1 B.length d1, .slice P1 P.length e1] 38)) (w.heap.size + 1) (by simp) 38 #[.int .i64 st, .slice A2 F.length c2, .slice B2 B.length d2, .slice P2 P.length e2]
  have R1 := h1.belowW L2
  have R2 := h2.belowW L2
  have hF := fun (W : World) (L : Below _ _ W) => law_fieldsR A1 F.length c1 F A2 F.length c2 F W ((R1.belowW L).rf) ((R2.belowW L).rf) (by unfold maxLen; omega)
  have hB := fun (W : World) (L : Below _ _ W) => law_same26 B1 B.length d1 B B2 B.length d2 B W ((R1.belowW L).rb) ((R2.belowW L).rb) (by unfold maxLen; omega)
  have hP := fun (W : World) (L : Below _ _ W) => law_intsR P1 P.length e1 P2 P.length e2 P W ((R1.belowW L).rp) ((R2.belowW L).rp) (by omega)
  simp only [decide_true] at hF hB hP
  clear R1 R2 h1 h2
  obtain ⟨a0, a1, a2, a3, -⟩ := K1.c4
  obtain ⟨b0, b1, b2, b3, -⟩ := K2.c4
  go_enter Tryz.func24, Tryz.ntmps24
  go_wp2_with fail
  refine (hF _ (Below.refl _ _)).mono ?_
  rintro e w3 ⟨rfl, L3⟩
  obtain ⟨a0, a1, a2, a3, -⟩ := (K1.belowW L3).c4
  obtain ⟨b0, b1, b2, b3, -⟩ := (K2.belowW L3).c4
  go_wp2_with fail
  refine (hB _ L3).mono ?_
  rintro e w4 ⟨rfl, L4⟩
  have L4 := stepW L3 L4
  obtain ⟨a0, a1, a2, a3, -⟩ := (K1.belowW L4).c4
  obtain ⟨b0, b1, b2, b3, -⟩ := (K2.belowW L4).c4
  go_wp2_with fail
  refine (hP _ L4).mono ?_
  rintro e w5 ⟨rfl, L5⟩
  go_wp2
  go_ret
  exact ⟨rfl, stepW L2 (stepW L4 L5)⟩
theorem law_responsesR (A1 A2 : Option Addr) (c1 c2 : Nat) (l1 l2 : List RsP) (w : World) (h1 : RRs w A1 l1.length l1) (h2 : RRs w A2 l2.length l2) (hm : l1.map (·.r) = l2.map (·.r)) (hn : l1.length ≤ 100000)
    (hz : ∀ x ∈ l1, x.r.f.length ≤ 100000 ∧ x.r.b.length ≤ 100000 ∧ x.r.p.length ≤ 100000) :
    Calls Tryz.prog 9 #[.slice A1 l1.length c1, .slice A2 l2.length c2] w fun e w' => e = .returned (.bool true) ∧ Below w.heap.size w w' := by
  have hl : l2.length = l1.length := by have := congrArg List.length hm; simpa using this.symm
  rw [hl] at h2 ⊢
  obtain ⟨n, hN⟩ : ∃ n, n = l1.length := ⟨_, rfl⟩
  rw [← hN] at h1 h2 hn ⊢
  have HM := Lib.hid hm
  have HL := Lib.hid hl
  have HN := Lib.hid hN
  clear hm hl hN
  go_enter Tryz.func9, Tryz.ntmps9
  go_wp2
  go_loopw [5] (fun i wr => ∃ k : Nat, k ≤ n ∧ i = .int .i64 k ∧ Below w.heap.size w wr) (fun i _ => n - (intOf i).toNat)
  case atStart => exact ⟨0, Nat.zero_le _, rfl, Below.refl _ _⟩
  case round =>
    obtain ⟨k, hk, rfl, LB⟩ := hrel
    by_cases hlt : k < n
    · have hk1 : k < l1.length := by rw [← HN.out]; exact hlt
      have hk2 : k < l2.length := by rw [HL.out]; exact hk1
      obtain ⟨x, hx⟩ : ∃ x, l1[k]? = some x := ⟨_, List.getElem?_eq_getElem hk1⟩
      obtain ⟨y, hy⟩ : ∃ y, l2[k]? = some y := ⟨_, List.getElem?_eq_getElem hk2⟩
      have hxy : x.r = y.r := by
        have h := congrArg (fun l => l[k]?) HM.out
        simp only [List.getElem?_map, hx, hy, Option.map_some] at h
        injection h
      have hzx := hz x (List.mem_of_getElem? hx)
      have rx := (h1.rq x (List.mem_of_getElem? hx)).belowW LB
      have ry := (h2.rq y (List.mem_of_getElem? hy)).belowW LB
      obtain ⟨b1, o1, rfl, hb1, x0, x1, x2, x3⟩ := (h1.belowW LB).at_ hx
      obtain ⟨b2, o2, rfl, hb2, y0, y1, y2, y3⟩ := (h2.belowW LB).at_ hy
      obtain ⟨r, Af, cf, Ab, cb, Ap, cp⟩ := x
      obtain ⟨r', Ag, cg, Bb, db, Aq, cq⟩ := y
      dsimp only at hxy
      subst hxy
      dsimp only at x0 x1 x2 x3 y0 y1 y2 y3 hzx
      have hR := fun (W : World) (L : Below wr.heap.size wr W) => law_responseR r Af Ag Ab Bb Ap Aq cf cg cb db cp cq W (rx.belowW L) (ry.belowW L) hzx.1 hzx.2.1 hzx.2.2
      have hki : (k : Int) < (n : Int) := by omega
      clear hx hy rx ry hz hk1 hk2 hzx
      go_wp2_with fail
      go_region_with ((go_at_call 24; refine (hR _ (below_drewN' (Below.refl _ _) _)).mono ?_; rintro e w4 ⟨rfl, L4⟩; have M4 := stepW (below_drewN' (Below.refl wr.heap.size wr) _) L4))
      all_goals go_wp2_with fail
      all_goals
        go_roundw
        case rel => exact ⟨k + 1, by omega, by go_num, stepW LB M4⟩
        case measure => simp [intOf]; omega
    · have hki : ¬ (k : Int) < (n : Int) := by omega
      go_wp2
      go_ret
      exact ⟨rfl, LB⟩
end Go.Proofs.YtmjekdnfkgalbaaGreatDoor
