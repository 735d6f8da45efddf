/- append on rows that a call made: bytes, texts. -/
import Derived.Test.YtmnnbfaaaifcoaaGreatDoorProg
import Derived.Test.YtmnnbfaaaifcoaaGreatDoorMem2
import Derived.Handy
namespace Go.Proofs.YtmnnbfaaaifcoaaGreatDoor
open Go.RowKit
set_option maxRecDepth 100000
set_option maxHeartbeats 2000000

/-- From w to w' the row v has become v': only v's own block, and new ones, have turned. -/
structure Ext (w w' : World) (v v' : Value) : Prop where
  fr : Fr (fun k => v.ownBlock = some k) w w'
  own : ∀ k, v'.ownBlock = some k → v.ownBlock = some k ∨ w.heap.size ≤ k
namespace Ext
variable {w w' w'' : World} {v v' v'' : Value}
theorem below {base B : Nat} {e : TypeId} {size n : Nat} {xs : List Value} (h : Ext w w' v v') (ho : Own w base e size v n xs) (hB : B ≤ base) (hs : B ≤ w.heap.size) : Below B w w' :=
  h.fr.toBelow hs fun k hk => Nat.le_trans hB (ho.lt k hk).1
theorem keep {base e size n : Nat} {u : Value} {xs : List Value} (h : Ext w w' v v') (ho : Own w base e size u n xs) (hne : ∀ k, v.ownBlock = some k → u.ownBlock ≠ some k) : Own w' base e size u n xs :=
  ho.fr h.fr fun k hk hs => hne k hs hk
end Ext
theorem ext_of {w0 w w' : World} {v v' : Value} (hw : Below w0.heap.size w0 w) (hg : w.grownBy w' v.ownBlock) (ha : v'.ownBlock = v.ownBlock ∨ v'.ownBlock = some w.heap.size) : Ext w0 w' v v' := by
  refine ⟨?_, fun k hk => ?_⟩
  · refine Fr.trans (Fr.mono (T := fun k => v.ownBlock = some k) (Fr.ofBelow hw) (fun i hi => .inr hi)) (Fr.ofGrown hg) (fun i hi => .inl hi.symm)
  · rcases ha with h | h
    · exact .inl (h ▸ hk)
    · rw [h] at hk; injection hk with hk; exact .inr (hk ▸ hw.size)

/-- v is a row of bytes that the call owns. -/
def OB (w : World) (base : Nat) (v : Value) (l : Bs) : Prop := Own w base 5 1 v l.length (l.map bv)
theorem OB.nil (w : World) (base : Nat) : OB w base (.slice none 0 0) [] := Own.nil w base _ 1
theorem OB.belowW {w w' : World} {base : Nat} {v : Value} {l : Bs} (h : OB w base v l) (hb : Below w.heap.size w w') : OB w' base v l := Own.belowW h hb
theorem OB.alloc {w : World} {base : Nat} {v : Value} {l : Bs} (h : OB w base v l) (o : Obj) : OB (w.alloc o) base v l := Own.alloc h o
theorem OB.drewN {w : World} {base : Nat} {v : Value} {l : Bs} (h : OB w base v l) (n : Nat) : OB (w.drewN n) base v l := Own.drewN h n
theorem OB.form {w : World} {base : Nat} {v : Value} {l : Bs} (h : OB w base v l) : ∃ A c, v = .slice A l.length c ∧ l.length ≤ c ∧ c ≤ maxLen ∧ Rd w w.heap.size 1 A l.length (l.map bv) := by
  obtain ⟨A, c, h1, h2, h3, h4, _⟩ := Own.rd h
  exact ⟨A, c, h1, h2, h3, h4⟩
theorem OB.ext {w w' : World} {base : Nat} {v u u' : Value} {l : Bs} (h : OB w base v l) (hx : Ext w w' u u') (hne : ∀ k, u.ownBlock = some k → v.ownBlock ≠ some k) : OB w' base v l := hx.keep h hne
theorem info_b8 : (Tryz.prog.info? 5).map (fun i => (i.zero, i.size, i.bytes)) = some (some (.int .u8 0), 1, 1) := by kernel_rfl
theorem bv_one (l : Bs) : ∀ u ∈ l.map bv, u.oneCell' = true := by
  intro u hu; obtain ⟨x, -, rfl⟩ := List.mem_map.1 hu; rfl

section
variable {ops : Array Oper} {rest : List Oper} {o : Oper} {a : Act} {Q : Exit → Act → World → Prop}
/-- append(b, s...) from whatever source of bytes. -/
theorem wp_appSrc {w0 w : World} (hgd : o.guard = none) (s x : Operand) (xt : TypeId)
    (ho : o.op = .call { callee := .builtin .append, args := #[s, x], argTypes := #[61, xt] })
    (hxt : Tryz.prog.underlying xt = some (.slice 5) ∨ Tryz.prog.underlying xt = some .string)
    (base : Nat) (v : Value) (l : Bs) (hs : a.eval s = v) (hown : OB w0 base v l) (hw : Below w0.heap.size w0 w) (xv : Value) (hx : a.eval x = xv) (m : Bs) (hsrc : Src Tryz.prog w 1 xv m.length (m.map bv))
    (hlen : l.length + m.length ≤ 140737488355328) (hbase : base ≤ w0.heap.size)
    (h : ∀ v' w', OB w' base v' (l ++ m) → Ext w0 w' v v' → wpList Tryz.prog ops Q rest (a.put o.dst v') w') : wpList Tryz.prog ops Q (o :: rest) a w := by
  obtain ⟨i0, hi, hz0, hz1, hz2⟩ := info_parts info_b8
  refine wpList_append_Own w hgd s x 61 xt ho base 5 i0 _ 1 1 Tryz.underlying61 hxt hi hz0 hz1 hz2 rfl (by decide) v l.length _ hs (hown.belowW hw) xv m.length _ hx hsrc (by unfold maxLen; omega) (by omega) (Nat.le_trans hbase hw.size) ?_
  intro v' w' ho' hg ha
  refine h v' w' ?_ (ext_of hw hg ha)
  have e : (l.map bv ++ m.map bv) = (l ++ m).map bv := by simp
  rw [e] at ho'
  unfold OB
  rw [List.length_append]
  exact ho'
/-- append(b, c) of one byte. -/
theorem wp_app1 {w0 : World} (hgd : o.guard = none) (s x : Operand)
    (ho : o.op = .call { callee := .builtin .append, args := #[s, x], argTypes := #[61, 61] })
    (base : Nat) (v : Value) (l : Bs) (hs : a.eval s = v) (hown : OB w0 base v l) (g : Nat) (hg : g = w0.heap.size) (c : Int) (hx : a.eval x = .slice (some ⟨g, 0, none⟩) 1 1) (b : UInt8) (hc : c = (b.toNat : Int))
    (hlen : l.length + 1 ≤ 140737488355328) (hbase : base ≤ w0.heap.size)
    (h : ∀ v' w', OB w' base v' (l ++ [b]) → Ext w0 w' v v' → wpList Tryz.prog ops Q rest (a.put o.dst v') w') : wpList Tryz.prog ops Q (o :: rest) a (w0.alloc (.cells #[.int .u8 c] 5)) := by
  subst hc; subst hg
  exact wp_appSrc hgd s x 61 ho (.inl Tryz.underlying61) base v l hs hown ((Below.refl _ _).alloc (Nat.le_refl _) _) _ hx [b] (Src.of_rd (Rd.new w0 _ rfl [bv b] _ 1 1 rfl) (bv_one [b])) hlen hbase h
/-- append(b, s...) of a string. -/
theorem wp_appStr {w : World} (hgd : o.guard = none) (s x : Operand)
    (ho : o.op = .call { callee := .builtin .append, args := #[s, x], argTypes := #[61, 9] })
    (base : Nat) (v : Value) (l : Bs) (hs : a.eval s = v) (hown : OB w base v l) (t : ByteArray) (hx : a.eval x = .string t)
    (hlen : l.length + t.size ≤ 140737488355328) (hbase : base ≤ w.heap.size)
    (h : ∀ v' w', OB w' base v' (l ++ t.data.toList) → Ext w w' v v' → wpList Tryz.prog ops Q rest (a.put o.dst v') w') : wpList Tryz.prog ops Q (o :: rest) a w := by
  have hsrc : Src Tryz.prog w 1 (.string t) t.data.toList.length (t.data.toList.map bv) := by
    have := Src.of_string (P := Tryz.prog) (w := w) t.data.toList
    rwa [show sv t.data.toList = .string t by rw [sv, ← str_eta]] at this
  exact wp_appSrc hgd s x 9 ho (.inr Tryz.underlying9) base v l hs hown (Below.refl _ _) _ hx t.data.toList hsrc (by rw [len_data]; exact hlen) hbase h
/-- append(b, x...) of bytes that may be read. -/
theorem wp_appRd {w0 w : World} (hgd : o.guard = none) (s x : Operand)
    (ho : o.op = .call { callee := .builtin .append, args := #[s, x], argTypes := #[61, 61] })
    (base : Nat) (v : Value) (l : Bs) (hs : a.eval s = v) (hown : OB w0 base v l) (hw : Below w0.heap.size w0 w) (A : Option Addr) (n c B : Nat) (hx : a.eval x = .slice A n c) (m : Bs) (hr : Rd w B 1 A n (m.map bv))
    (hlen : l.length + m.length ≤ 140737488355328) (hbase : base ≤ w0.heap.size)
    (h : ∀ v' w', OB w' base v' (l ++ m) → Ext w0 w' v v' → wpList Tryz.prog ops Q rest (a.put o.dst v') w') : wpList Tryz.prog ops Q (o :: rest) a w := by
  have hn : m.length = n := by simpa using hr.1
  subst hn
  exact wp_appSrc hgd s x 61 ho (.inl Tryz.underlying61) base v l hs hown hw _ hx m (Src.of_rd hr (bv_one m)) hlen hbase h
end
/-- string(b) of a row that the call owns. -/
theorem wp_strOB {ops : Array Oper} {rest : List Oper} {o : Oper} {a : Act} {Q : Exit → Act → World → Prop} {w : World} (hgd : o.guard = none) (x : Operand)
    (ho : o.op = .convert 61 9 x) (base : Nat) (v : Value) (l : Bs) (hx : a.eval x = v) (hown : OB w base v l) (h : wpList Tryz.prog ops Q rest (a.put o.dst (sv l)) w) :
    wpList Tryz.prog ops Q (o :: rest) a w := by
  obtain ⟨A, c, rfl, h1, h2, hr⟩ := hown.form
  exact wpList_toString w hgd x 61 9 ho 5 Tryz.underlying61 Tryz.underlying5 Tryz.underlying9 A _ c _ l hx hr h

/-! ### Rows of texts -/
abbrev tv (l : Bs) : Value := .string ⟨l.toArray⟩
def OS (w : World) (base : Nat) (v : Value) (l : List Bs) : Prop := Own w base 9 1 v l.length (l.map tv)
theorem OS.nil (w : World) (base : Nat) : OS w base (.slice none 0 0) [] := Own.nil w base _ 1
theorem OS.belowW {w w' : World} {base : Nat} {v : Value} {l : List Bs} (h : OS w base v l) (hb : Below w.heap.size w w') : OS w' base v l := Own.belowW h hb
theorem OS.alloc {w : World} {base : Nat} {v : Value} {l : List Bs} (h : OS w base v l) (o : Obj) : OS (w.alloc o) base v l := Own.alloc h o
theorem OS.drewN {w : World} {base : Nat} {v : Value} {l : List Bs} (h : OS w base v l) (n : Nat) : OS (w.drewN n) base v l := Own.drewN h n
theorem OS.form {w : World} {base : Nat} {v : Value} {l : List Bs} (h : OS w base v l) : ∃ A c, v = .slice A l.length c ∧ l.length ≤ c ∧ c ≤ maxLen ∧ Rd w w.heap.size 1 A l.length (l.map tv) := by
  obtain ⟨A, c, h1, h2, h3, h4, _⟩ := Own.rd h
  exact ⟨A, c, h1, h2, h3, h4⟩
theorem info_str : (Tryz.prog.info? 9).map (fun i => (i.zero, i.size, i.bytes)) = some (some (.string ⟨#[]⟩), 1, 16) := by kernel_rfl
theorem tv_one (l : List Bs) : ∀ u ∈ l.map tv, u.oneCell' = true := by
  intro u hu; obtain ⟨x, -, rfl⟩ := List.mem_map.1 hu; rfl
section
variable {ops : Array Oper} {rest : List Oper} {o : Oper} {a : Act} {Q : Exit → Act → World → Prop}
theorem wp_appS {w0 w : World} (hgd : o.guard = none) (s x : Operand)
    (ho : o.op = .call { callee := .builtin .append, args := #[s, x], argTypes := #[34, 34] })
    (base : Nat) (v : Value) (l : List Bs) (hs : a.eval s = v) (hown : OS w0 base v l) (hw : Below w0.heap.size w0 w) (A : Option Addr) (n c B : Nat) (hx : a.eval x = .slice A n c) (m : List Bs) (hr : Rd w B 1 A n (m.map tv))
    (hlen : l.length + m.length ≤ 4294967296) (hbase : base ≤ w0.heap.size)
    (h : ∀ v' w', OS w' base v' (l ++ m) → Ext w0 w' v v' → wpList Tryz.prog ops Q rest (a.put o.dst v') w') : wpList Tryz.prog ops Q (o :: rest) a w := by
  obtain ⟨i0, hi, hz0, hz1, hz2⟩ := info_parts info_str
  have hn : m.length = n := by simpa using hr.1
  subst hn
  refine wpList_append_Own w hgd s x 34 34 ho base 9 i0 _ 1 16 Tryz.underlying34 (.inl Tryz.underlying34) hi hz0 hz1 hz2 rfl (by decide) v l.length _ hs (hown.belowW hw) _ m.length _ hx (Src.of_rd hr (tv_one m)) (by unfold maxLen; omega) (by omega) (Nat.le_trans hbase hw.size) ?_
  intro v' w' ho' hg ha
  refine h v' w' ?_ (ext_of hw hg ha)
  have e : (l.map tv ++ m.map tv) = (l ++ m).map tv := by simp
  rw [e] at ho'
  unfold OS
  rw [List.length_append]
  exact ho'
/-- append(l, s) of one text. -/
theorem wp_appS1 {w0 : World} (hgd : o.guard = none) (s x : Operand)
    (ho : o.op = .call { callee := .builtin .append, args := #[s, x], argTypes := #[34, 34] })
    (base : Nat) (v : Value) (l : List Bs) (hs : a.eval s = v) (hown : OS w0 base v l) (g : Nat) (hg : g = w0.heap.size) (t : ByteArray) (hx : a.eval x = .slice (some ⟨g, 0, none⟩) 1 1)
    (hlen : l.length + 1 ≤ 4294967296) (hbase : base ≤ w0.heap.size)
    (h : ∀ v' w', OS w' base v' (l ++ [t.data.toList]) → Ext w0 w' v v' → wpList Tryz.prog ops Q rest (a.put o.dst v') w') : wpList Tryz.prog ops Q (o :: rest) a (w0.alloc (.cells #[.string t] 9)) := by
  subst hg
  refine wp_appS hgd s x ho base v l hs hown ((Below.refl _ _).alloc (Nat.le_refl _) _) _ 1 1 (w0.heap.size + 1) hx [t.data.toList] ?_ hlen hbase h
  have := Rd.new w0 _ rfl [tv t.data.toList] 9 1 1 rfl
  rw [show [tv t.data.toList] = [Value.string t] by rw [tv, ← str_eta]] at this
  rw [show [t.data.toList].map tv = [Value.string t] by rw [List.map_cons, List.map_nil, tv, ← str_eta]]
  exact this
end
end Go.Proofs.YtmnnbfaaaifcoaaGreatDoor
