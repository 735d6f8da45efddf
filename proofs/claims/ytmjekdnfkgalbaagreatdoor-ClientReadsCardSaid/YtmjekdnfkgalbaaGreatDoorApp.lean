/- append on rows that a call made: bytes, texts. The functions of target, first part: isOf, Host, Decode. target.Decode. target.Clean. target.origin. -/
import Derived.Test.YtmjekdnfkgalbaaGreatDoorProg
import Derived.Test.YtmjekdnfkgalbaaGreatDoorPlain
import Derived.Handy
import Derived.Test.YtmjekdnfkgalbaaGreatDoorHex
import Derived.Test.YtmjekdnfkgalbaaGreatDoorTPlain
import Derived.Deep.QuietTactic
import Derived.BigQuiet
import Derived.Lib.Split
namespace Go.Proofs.YtmjekdnfkgalbaaGreatDoor
open Go.RowKit
set_option maxRecDepth 100000
set_option maxHeartbeats 2000000

/-- From w to w' the row v has become v': only v's own block, and new ones, have turned. -/
structure Ext (w w' : World) (v v' : Value) : Prop where
  fr : Fr (fun k => v.ownBlock = some k) w w'
  own : ∀ k, v'.ownBlock = some k → v.ownBlock = some k ∨ w.heap.size ≤ k
namespace Ext
variable {w w' w'' : World} {v v' v'' : Value}
theorem below {base B : Nat} {e : TypeId} {size n : Nat} {xs : List Value} (h : Ext w w' v v') (ho : Own w base e size v n xs) (hB : B ≤ base) (hs : B ≤ w.heap.size) : Below B w w' :=
  h.fr.toBelow hs fun k hk => Nat.le_trans hB (ho.lt k hk).1
theorem keep {base e size n : Nat} {u : Value} {xs : List Value} (h : Ext w w' v v') (ho : Own w base e size u n xs) (hne : ∀ k, v.ownBlock = some k → u.ownBlock ≠ some k) : Own w' base e size u n xs :=
  ho.fr h.fr fun k hk hs => hne k hs hk
end Ext
theorem ext_of {w0 w w' : World} {v v' : Value} (hw : Below w0.heap.size w0 w) (hg : w.grownBy w' v.ownBlock) (ha : v'.ownBlock = v.ownBlock ∨ v'.ownBlock = some w.heap.size) : Ext w0 w' v v' := by
  refine ⟨?_, fun k hk => ?_⟩
  · refine Fr.trans (Fr.mono (T := fun k => v.ownBlock = some k) (Fr.ofBelow hw) (fun i hi => .inr hi)) (Fr.ofGrown hg) (fun i hi => .inl hi.symm)
  · rcases ha with h | h
    · exact .inl (h ▸ hk)
    · rw [h] at hk; injection hk with hk; exact .inr (hk ▸ hw.size)

/-- v is a row of bytes that the call owns. -/
def OB (w : World) (base : Nat) (v : Value) (l : Bs) : Prop := Own w base 5 1 v l.length (l.map bv)
theorem OB.nil (w : World) (base : Nat) : OB w base (.slice none 0 0) [] := Own.nil w base _ 1
theorem OB.belowW {w w' : World} {base : Nat} {v : Value} {l : Bs} (h : OB w base v l) (hb : Below w.heap.size w w') : OB w' base v l := Own.belowW h hb
theorem OB.alloc {w : World} {base : Nat} {v : Value} {l : Bs} (h : OB w base v l) (o : Obj) : OB (w.alloc o) base v l := Own.alloc h o
theorem OB.drewN {w : World} {base : Nat} {v : Value} {l : Bs} (h : OB w base v l) (n : Nat) : OB (w.drewN n) base v l := Own.drewN h n
theorem OB.form {w : World} {base : Nat} {v : Value} {l : Bs} (h : OB w base v l) : ∃ A c, v = .slice A l.length c ∧ l.length ≤ c ∧ c ≤ maxLen ∧ Rd w w.heap.size 1 A l.length (l.map bv) := by
  obtain ⟨A, c, h1, h2, h3, h4, _⟩ := Own.rd h
  exact ⟨A, c, h1, h2, h3, h4⟩
theorem OB.ext {w w' : World} {base : Nat} {v u u' : Value} {l : Bs} (h : OB w base v l) (hx : Ext w w' u u') (hne : ∀ k, u.ownBlock = some k → v.ownBlock ≠ some k) : OB w' base v l := hx.keep h hne
theorem info_b8 : (Tryz.prog.info? 5).map (fun i => (i.zero, i.size, i.bytes)) = some (some (.int .u8 0), 1, 1) := by kernel_rfl
theorem bv_one (l : Bs) : ∀ u ∈ l.map bv, u.oneCell' = true := by
  intro u hu; obtain ⟨x, -, rfl⟩ := List.mem_map.1 hu; rfl

section
variable {ops : Array Oper} {rest : List Oper} {o : Oper} {a : Act} {Q : Exit → Act → World → Prop}
/-- append(b, s...) from whatever source of bytes. -/
theorem wp_appSrc {w0 w : World} (hgd : o.guard = none) (s x : Operand) (xt : TypeId)
    (ho : o.op = .call { callee := .builtin .append, args := #[s, x], argTypes := #[22, xt] })
    (hxt : Tryz.prog.underlying xt = some (.slice 5) ∨ Tryz.prog.underlying xt = some .string)
    (base : Nat) (v : Value) (l : Bs) (hs : a.eval s = v) (hown : OB w0 base v l) (hw : Below w0.heap.size w0 w) (xv : Value) (hx : a.eval x = xv) (m : Bs) (hsrc : Src Tryz.prog w 1 xv m.length (m.map bv))
    (hlen : l.length + m.length ≤ 140737488355328) (hbase : base ≤ w0.heap.size)
    (h : ∀ v' w', OB w' base v' (l ++ m) → Ext w0 w' v v' → wpList Tryz.prog ops Q rest (a.put o.dst v') w') : wpList Tryz.prog ops Q (o :: rest) a w := by
  obtain ⟨i0, hi, hz0, hz1, hz2⟩ := info_parts info_b8
  refine wpList_append_Own w hgd s x 22 xt ho base 5 i0 _ 1 1 Tryz.underlying22 hxt hi hz0 hz1 hz2 rfl (by decide) v l.length _ hs (hown.belowW hw) xv m.length _ hx hsrc (by unfold maxLen; omega) (by omega) (Nat.le_trans hbase hw.size) ?_
  intro v' w' ho' hg ha
  refine h v' w' ?_ (ext_of hw hg ha)
  have e : (l.map bv ++ m.map bv) = (l ++ m).map bv := by simp
  rw [e] at ho'
  unfold OB
  rw [List.length_append]
  exact ho'
/-- append(b, c) of one byte. -/
theorem wp_app1 {w0 : World} (hgd : o.guard = none) (s x : Operand)
    (ho : o.op = .call { callee := .builtin .append, args := #[s, x], argTypes := #[22, 22] })
    (base : Nat) (v : Value) (l : Bs) (hs : a.eval s = v) (hown : OB w0 base v l) (g : Nat) (hg : g = w0.heap.size) (c : Int) (hx : a.eval x = .slice (some ⟨g, 0, none⟩) 1 1) (b : UInt8) (hc : c = (b.toNat : Int))
    (hlen : l.length + 1 ≤ 140737488355328) (hbase : base ≤ w0.heap.size)
    (h : ∀ v' w', OB w' base v' (l ++ [b]) → Ext w0 w' v v' → wpList Tryz.prog ops Q rest (a.put o.dst v') w') : wpList Tryz.prog ops Q (o :: rest) a (w0.alloc (.cells #[.int .u8 c] 5)) := by
  subst hc; subst hg
  exact wp_appSrc hgd s x 22 ho (.inl Tryz.underlying22) base v l hs hown ((Below.refl _ _).alloc (Nat.le_refl _) _) _ hx [b] (Src.of_rd (Rd.new w0 _ rfl [bv b] _ 1 1 rfl) (bv_one [b])) hlen hbase h
/-- append(b, s...) of a string. -/
theorem wp_appStr {w : World} (hgd : o.guard = none) (s x : Operand)
    (ho : o.op = .call { callee := .builtin .append, args := #[s, x], argTypes := #[22, 9] })
    (base : Nat) (v : Value) (l : Bs) (hs : a.eval s = v) (hown : OB w base v l) (t : ByteArray) (hx : a.eval x = .string t)
    (hlen : l.length + t.size ≤ 140737488355328) (hbase : base ≤ w.heap.size)
    (h : ∀ v' w', OB w' base v' (l ++ t.data.toList) → Ext w w' v v' → wpList Tryz.prog ops Q rest (a.put o.dst v') w') : wpList Tryz.prog ops Q (o :: rest) a w := by
  have hsrc : Src Tryz.prog w 1 (.string t) t.data.toList.length (t.data.toList.map bv) := by
    have := Src.of_string (P := Tryz.prog) (w := w) t.data.toList
    rwa [show sv t.data.toList = .string t by rw [sv, ← str_eta]] at this
  exact wp_appSrc hgd s x 9 ho (.inr Tryz.underlying9) base v l hs hown (Below.refl _ _) _ hx t.data.toList hsrc (by rw [len_data]; exact hlen) hbase h
/-- append(b, x...) of bytes that may be read. -/
theorem wp_appRd {w0 w : World} (hgd : o.guard = none) (s x : Operand)
    (ho : o.op = .call { callee := .builtin .append, args := #[s, x], argTypes := #[22, 22] })
    (base : Nat) (v : Value) (l : Bs) (hs : a.eval s = v) (hown : OB w0 base v l) (hw : Below w0.heap.size w0 w) (A : Option Addr) (n c B : Nat) (hx : a.eval x = .slice A n c) (m : Bs) (hr : Rd w B 1 A n (m.map bv))
    (hlen : l.length + m.length ≤ 140737488355328) (hbase : base ≤ w0.heap.size)
    (h : ∀ v' w', OB w' base v' (l ++ m) → Ext w0 w' v v' → wpList Tryz.prog ops Q rest (a.put o.dst v') w') : wpList Tryz.prog ops Q (o :: rest) a w := by
  have hn : m.length = n := by simpa using hr.1
  subst hn
  exact wp_appSrc hgd s x 22 ho (.inl Tryz.underlying22) base v l hs hown hw _ hx m (Src.of_rd hr (bv_one m)) hlen hbase h
end
/-- string(b) of a row that the call owns. -/
theorem wp_strOB {ops : Array Oper} {rest : List Oper} {o : Oper} {a : Act} {Q : Exit → Act → World → Prop} {w : World} (hgd : o.guard = none) (x : Operand)
    (ho : o.op = .convert 22 9 x) (base : Nat) (v : Value) (l : Bs) (hx : a.eval x = v) (hown : OB w base v l) (h : wpList Tryz.prog ops Q rest (a.put o.dst (sv l)) w) :
    wpList Tryz.prog ops Q (o :: rest) a w := by
  obtain ⟨A, c, rfl, h1, h2, hr⟩ := hown.form
  exact wpList_toString w hgd x 22 9 ho 5 Tryz.underlying22 Tryz.underlying5 Tryz.underlying9 A _ c _ l hx hr h

/-! ### Rows of texts -/
abbrev tv (l : Bs) : Value := .string ⟨l.toArray⟩
def OS (w : World) (base : Nat) (v : Value) (l : List Bs) : Prop := Own w base 9 1 v l.length (l.map tv)
theorem OS.nil (w : World) (base : Nat) : OS w base (.slice none 0 0) [] := Own.nil w base _ 1
theorem OS.belowW {w w' : World} {base : Nat} {v : Value} {l : List Bs} (h : OS w base v l) (hb : Below w.heap.size w w') : OS w' base v l := Own.belowW h hb
theorem OS.alloc {w : World} {base : Nat} {v : Value} {l : List Bs} (h : OS w base v l) (o : Obj) : OS (w.alloc o) base v l := Own.alloc h o
theorem OS.drewN {w : World} {base : Nat} {v : Value} {l : List Bs} (h : OS w base v l) (n : Nat) : OS (w.drewN n) base v l := Own.drewN h n
theorem OS.form {w : World} {base : Nat} {v : Value} {l : List Bs} (h : OS w base v l) : ∃ A c, v = .slice A l.length c ∧ l.length ≤ c ∧ c ≤ maxLen ∧ Rd w w.heap.size 1 A l.length (l.map tv) := by
  obtain ⟨A, c, h1, h2, h3, h4, _⟩ := Own.rd h
  exact ⟨A, c, h1, h2, h3, h4⟩
theorem info_str : (Tryz.prog.info? 9).map (fun i => (i.zero, i.size, i.bytes)) = some (some (.string ⟨#[]⟩), 1, 16) := by kernel_rfl
theorem tv_one (l : List Bs) : ∀ u ∈ l.map tv, u.oneCell' = true := by
  intro u hu; obtain ⟨x, -, rfl⟩ := List.mem_map.1 hu; rfl
section
variable {ops : Array Oper} {rest : List Oper} {o : Oper} {a : Act} {Q : Exit → Act → World → Prop}
theorem wp_appS {w0 w : World} (hgd : o.guard = none) (s x : Operand)
    (ho : o.op = .call { callee := .builtin .append, args := #[s, x], argTypes := #[23, 23] })
    (base : Nat) (v : Value) (l : List Bs) (hs : a.eval s = v) (hown : OS w0 base v l) (hw : Below w0.heap.size w0 w) (A : Option Addr) (n c B : Nat) (hx : a.eval x = .slice A n c) (m : List Bs) (hr : Rd w B 1 A n (m.map tv))
    (hlen : l.length + m.length ≤ 4294967296) (hbase : base ≤ w0.heap.size)
    (h : ∀ v' w', OS w' base v' (l ++ m) → Ext w0 w' v v' → wpList Tryz.prog ops Q rest (a.put o.dst v') w') : wpList Tryz.prog ops Q (o :: rest) a w := by
  obtain ⟨i0, hi, hz0, hz1, hz2⟩ := info_parts info_str
  have hn : m.length = n := by simpa using hr.1
  subst hn
  refine wpList_append_Own w hgd s x 23 23 ho base 9 i0 _ 1 16 Tryz.underlying23 (.inl Tryz.underlying23) hi hz0 hz1 hz2 rfl (by decide) v l.length _ hs (hown.belowW hw) _ m.length _ hx (Src.of_rd hr (tv_one m)) (by unfold maxLen; omega) (by omega) (Nat.le_trans hbase hw.size) ?_
  intro v' w' ho' hg ha
  refine h v' w' ?_ (ext_of hw hg ha)
  have e : (l.map tv ++ m.map tv) = (l ++ m).map tv := by simp
  rw [e] at ho'
  unfold OS
  rw [List.length_append]
  exact ho'
/-- append(l, s) of one text. -/
theorem wp_appS1 {w0 : World} (hgd : o.guard = none) (s x : Operand)
    (ho : o.op = .call { callee := .builtin .append, args := #[s, x], argTypes := #[23, 23] })
    (base : Nat) (v : Value) (l : List Bs) (hs : a.eval s = v) (hown : OS w0 base v l) (g : Nat) (hg : g = w0.heap.size) (t : ByteArray) (hx : a.eval x = .slice (some ⟨g, 0, none⟩) 1 1)
    (hlen : l.length + 1 ≤ 4294967296) (hbase : base ≤ w0.heap.size)
    (h : ∀ v' w', OS w' base v' (l ++ [t.data.toList]) → Ext w0 w' v v' → wpList Tryz.prog ops Q rest (a.put o.dst v') w') : wpList Tryz.prog ops Q (o :: rest) a (w0.alloc (.cells #[.string t] 9)) := by
  subst hg
  refine wp_appS hgd s x ho base v l hs hown ((Below.refl _ _).alloc (Nat.le_refl _) _) _ 1 1 (w0.heap.size + 1) hx [t.data.toList] ?_ hlen hbase h
  have := Rd.new w0 _ rfl [tv t.data.toList] 9 1 1 rfl
  rw [show [tv t.data.toList] = [Value.string t] by rw [tv, ← str_eta]] at this
  rw [show [t.data.toList].map tv = [Value.string t] by rw [List.map_cons, List.map_nil, tv, ← str_eta]]
  exact this
end
end Go.Proofs.YtmjekdnfkgalbaaGreatDoor
namespace Go.Proofs.YtmjekdnfkgalbaaGreatDoor
open Go.RowKit
set_option maxRecDepth 100000
set_option maxHeartbeats 2000000

/-- The library's bound on short searches has some value. -/
def ML (w : World) : Prop := ∃ m : Int, w.cell? ⟨2, 0, none⟩ = some (.int .i64 m)
theorem ML.below {w w' : World} {B : Nat} (h : ML w) (hb : Below B w w') (hB : w.heap.size ≤ B) : ML w' := by
  obtain ⟨m, hm⟩ := h
  have h1 : 2 < w.heap.size := by
    rcases Nat.lt_or_ge 2 w.heap.size with h1 | h1
    · exact h1
    · simp [World.cell?, Array.getElem?_eq_none h1] at hm
  exact ⟨m, (hb.cell (p := ⟨2, 0, none⟩) (Nat.lt_of_lt_of_le h1 hB)).trans hm⟩
theorem ML.drewN {w : World} (h : ML w) (n : Nat) : ML (w.drewN n) := h

def inB (o : Bs) (b : UInt8) : Bool := o.contains b
/-- A letter, a digit, or one of some. -/
def ofB (o : Bs) (b : UInt8) : Bool := alnumB b.toNat || inB o b
def allOf (o l : Bs) : Bool := l.all (ofB o)
theorem idx_neg (l : Bs) (c : UInt8) : decide (Lib.indexByte l c < 0) = !inB l c := by
  have h := idx_in l c
  unfold inB
  cases hc : l.contains c
  · rw [hc] at h
    have : ¬ 0 ≤ Lib.indexByte l c := fun hh => by simpa using h.1 hh
    simp; omega
  · have := h.2 hc
    simp; omega
theorem allOf_cons (o : Bs) (b : UInt8) (l : Bs) : allOf o (b :: l) = (ofB o b && allOf o l) := by rw [allOf, allOf, List.all_cons]

/-! ### Host -/
theorem index_1 (c : UInt8) : ∀ (l : Bs), (Lib.index l [c] = -1 ∧ l.takeWhile (· != c) = l ∧ l.dropWhile (· != c) = []) ∨ (∃ r, l.dropWhile (· != c) = c :: r ∧ Lib.index l [c] = ((l.takeWhile (· != c)).length : Nat) ∧ l = l.takeWhile (· != c) ++ c :: r)
  | [] => .inl ⟨by simp [Lib.index], rfl, rfl⟩
  | b :: l => by
    by_cases h : b = c
    · subst h
      refine .inr ⟨l, by simp, ?_, by simp⟩
      have hp : ([b].isPrefixOf (b :: l)) = true := by show (b == b && ([] : Bs).isPrefixOf l) = true; simp
      rw [Lib.index, hp]; simp
    · have hn : (b != c) = true := by simpa using h
      have hp : ([c].isPrefixOf (b :: l)) = false := by show (c == b && ([] : Bs).isPrefixOf l) = false; rw [show (c == b) = false by simpa using fun e => h e.symm]; rfl
      simp only [List.takeWhile_cons, List.dropWhile_cons, hn, if_true, Lib.index, hp]
      rcases index_1 c l with ⟨h1, h2, h3⟩ | ⟨r, h1, h2, h3⟩
      · exact .inl ⟨by simp [h1], by rw [h2], h3⟩
      · refine .inr ⟨r, h1, ?_, ?_⟩
        · rw [h2]
          simp
        · simp only [List.cons_append]; rw [← h3]
/-- strings.Cut at one byte. -/
theorem cut_1 (c : UInt8) (l : Bs) : Lib.cut l [c] = (l.takeWhile (· != c), (l.dropWhile (· != c)).tail, !(l.dropWhile (· != c)).isEmpty) := by
  unfold Lib.cut
  rcases index_1 c l with ⟨h1, h2, h3⟩ | ⟨r, h1, h2, h3⟩
  · rw [h1, h2, h3]; rfl
  · rw [if_pos (by omega), h1, h2]
    generalize l.takeWhile (· != c) = t at h3
    subst h3
    simp

def fstB (c : UInt8) (l : Bs) : Bs := l.takeWhile (· != c)
def sndB (c : UInt8) (l : Bs) : Bs := (l.dropWhile (· != c)).tail
def hasB (c : UInt8) (l : Bs) : Bool := !(l.dropWhile (· != c)).isEmpty
theorem fstB_len (c : UInt8) (l : Bs) : (fstB c l).length ≤ l.length := (List.takeWhile_sublist _).length_le
theorem sndB_len (c : UInt8) (l : Bs) : (sndB c l).length ≤ l.length := by
  unfold sndB
  have := (List.dropWhile_sublist (l := l) (· != c)).length_le
  simp; omega
def numO (l : Bs) : Option Int := numR 10 15 l
theorem num_O (s : ByteArray) (w : World) (hs : s.size ≤ maxLen) :
    Calls Tryz.prog 63 #[.string s] w fun e w' => e = .returned (.tuple #[.int .i64 ((numO s.data.toList).getD 0), .bool (numO s.data.toList).isSome]) ∧ Below w.heap.size w w' := asc_Num s w hs
theorem hostB_of (b : UInt8) : hostB b = ofB [45, 46] b := by
  have : ∀ x : Fin 256, hostB (UInt8.ofNat x.val) = ofB [45, 46] (UInt8.ofNat x.val) := by decide +kernel
  have h := this ⟨b.toNat, b.toNat_lt⟩
  simpa using h
theorem hostL_parts (l : Bs) : hostL l = ((!hasB 58 l || portL (sndB 58 l)) && decide (1 ≤ (fstB 58 l).length) && decide ((fstB 58 l).length ≤ 100) && allOf [45, 46] (fstB 58 l)) := by
  have e : hostB = ofB [45, 46] := funext hostB_of
  simp only [hostL, hasB, sndB, fstB, allOf, Bool.not_not, e]
  rfl
/-! ### Decode -/
/-- What numR says of two digits. -/
theorem hex_two (a b : UInt8) : numR 16 12 [a, b] = if digB a.toNat < 0 ∨ digB b.toNat < 0 then none else some (digB a.toNat * 16 + digB b.toNat) := by
  have h1 := digB_le a.toNat (by omega) (u8lt a)
  have h2 := digB_le b.toNat (by omega) (u8lt b)
  simp only [numR, numF, List.length_cons, List.length_nil]
  rw [if_neg (by omega)]
  split
  · rw [if_pos (by omega)]
  · split
    · rw [if_pos (by omega)]
    · rw [if_neg (by omega)]; congr 1; omega
theorem pct_some (a b x : UInt8) (h : pctL a b = some x) : ∃ n : Int, numR 16 12 [a, b] = some n ∧ n = x.toNat ∧ 1 ≤ n ∧ n ≤ 255 := by
  have h1 := digB_le a.toNat (by omega) (u8lt a)
  have h2 := digB_le b.toNat (by omega) (u8lt b)
  unfold pctL at h
  split at h
  · cases h
  · rename_i hc
    injection h with h
    rw [hex_two, if_neg (by omega)]
    refine ⟨_, rfl, ?_, by omega, by omega⟩
    rw [← h, UInt8.toNat_ofNat']
    omega
theorem pct_none (a b : UInt8) (h : pctL a b = none) : numR 16 12 [a, b] = none ∨ numR 16 12 [a, b] = some 0 := by
  unfold pctL at h
  rw [hex_two]
  split at h
  · rename_i hc
    by_cases h0 : digB a.toNat < 0 ∨ digB b.toNat < 0
    · exact .inl (by rw [if_pos h0])
    · exact .inr (by rw [if_neg h0]; congr 1; omega)
  · cases h
end Go.Proofs.YtmjekdnfkgalbaaGreatDoor
namespace Go.Proofs.YtmjekdnfkgalbaaGreatDoor
open Go.RowKit
set_option maxRecDepth 100000
set_option maxHeartbeats 2000000

/-- A result of Decode: the text, and the error. -/
def decR (o : Option Bs) : Value := .tuple #[sv (o.getD []), .int .i64 (if o.isSome then 0 else 8)]
theorem decR_none : decR none = .tuple #[sv [], .int .i64 8] := rfl
theorem decR_some (l : Bs) : decR (some l) = .tuple #[sv l, .int .i64 0] := rfl
def hexO (l : Bs) : Option Int := numR 16 12 l
theorem hex_O (s : ByteArray) (w : World) (hs : s.size ≤ maxLen) :
    Calls Tryz.prog 90 #[.string s] w fun e w' => e = .returned (.tuple #[.int .i64 ((hexO s.data.toList).getD 0), .bool (hexO s.data.toList).isSome]) ∧ Below w.heap.size w w' := asc_Hex s w hs
theorem ext_two (s : ByteArray) (k : Nat) (a b : UInt8) (r : Bs) (h : s.data.toList.drop k = a :: b :: r) : s.extract k (k + 2) = ⟨#[a, b]⟩ := by
  apply str_ext
  rw [ext_data, h, show k + 2 - k = 2 by omega]
  rfl
theorem drop_two (s : ByteArray) (k : Nat) (h : k + 1 < s.size) : ∃ a b : UInt8, s.data.toList.drop k = a :: b :: s.data.toList.drop (k + 2) :=
  ⟨s[k], s[k + 1], by rw [drop_cons s k (by omega), drop_cons s (k + 1) h]⟩
theorem app_map (l : Bs) (x : UInt8) (o : Option Bs) : (o.map (x :: ·)).map (l ++ ·) = o.map (l ++ [x] ++ ·) := by
  cases o <;> simp
end Go.Proofs.YtmjekdnfkgalbaaGreatDoor
namespace Go.Proofs.YtmjekdnfkgalbaaGreatDoor
open Go.RowKit
set_option maxRecDepth 100000
set_option maxHeartbeats 2000000

theorem splitL_append (c : UInt8) : ∀ (t r : Bs), (∀ b ∈ t, b ≠ c) → splitL c (t ++ c :: r) = t :: splitL c r
  | [], r, _ => by simp [splitL]
  | b :: t, r, h => by
    have hb : b ≠ c := h b (by simp)
    rw [List.cons_append, splitL, if_neg hb, splitL_append c t r (fun x hx => h x (by simp [hx]))]
theorem splitL_free (c : UInt8) : ∀ (t : Bs), (∀ b ∈ t, b ≠ c) → splitL c t = [t]
  | [], _ => rfl
  | b :: t, h => by
    have hb : b ≠ c := h b (by simp)
    rw [splitL, if_neg hb, splitL_free c t (fun x hx => h x (by simp [hx]))]
theorem takeWhile_ne (c : UInt8) : ∀ (l : Bs), ∀ b ∈ l.takeWhile (· != c), b ≠ c
  | [], b, hb => by simp at hb
  | x :: l, b, hb => by
    rw [List.takeWhile_cons] at hb
    split at hb
    · rename_i h
      rcases List.mem_cons.1 hb with rfl | hb
      · simpa using h
      · exact takeWhile_ne c l b hb
    · simp at hb
theorem splitK_1 (c : UInt8) : ∀ (k : Nat) (l : Bs), l.count c ≤ k → Lib.splitK [c] 0 k l = splitL c l
  | 0, l, h => by
    rw [Lib.splitK, splitL_free c l (fun b hb e => by subst e; have := List.count_pos_iff.2 hb; omega)]
  | k + 1, l, h => by
    rw [Lib.splitK]
    rcases index_1 c l with ⟨h1, h2, h3⟩ | ⟨r, h1, h2, h3⟩
    · rw [h1, if_pos (by rfl), splitL_free c l (fun b hb e => by rw [← h2] at hb; exact takeWhile_ne c l b hb e)]
    · rw [h2, if_neg (by simp)]
      have hc : l.count c = 1 + r.count c := by
        rw [h3, List.count_append, List.count_cons_self]
        have : (l.takeWhile (· != c)).count c = 0 := List.count_eq_zero.2 (fun hm => takeWhile_ne c l c hm rfl)
        omega
      have ht := takeWhile_ne c l
      generalize l.takeWhile (· != c) = t at h3 ht
      subst h3
      rw [splitL_append c t r ht, ← splitK_1 c k r (by omega)]
      simp
theorem count_1 (c : UInt8) : ∀ (f : Nat) (l : Bs), l.length < f → Lib.countFrom [c] f l = l.count c
  | 0, l, h => by omega
  | f + 1, l, h => by
    rw [Lib.countFrom]
    rcases index_1 c l with ⟨h1, h2, h3⟩ | ⟨r, h1, h2, h3⟩
    · rw [h1, if_pos (by rfl)]
      exact (List.count_eq_zero.2 (fun hm => by rw [← h2] at hm; exact takeWhile_ne c l c hm rfl)).symm
    · rw [h2, if_neg (by simp)]
      have ht := takeWhile_ne c l
      generalize l.takeWhile (· != c) = t at h3 ht
      subst h3
      have e : (t ++ c :: r).drop ((t.length : Int).toNat + [c].length) = r := by simp
      rw [e, count_1 c f r (by simp at h; omega), List.count_append, List.count_cons_self, List.count_eq_zero.2 (fun hm => ht c hm rfl)]
      omega
theorem splitB_1 (c : UInt8) (s : ByteArray) : (Lib.splitB ⟨#[c]⟩ 0 (Lib.countB s ⟨#[c]⟩) s).map (·.data.toList) = splitL c s.data.toList := by
  rw [Lib.splitB_data]
  exact splitK_1 c _ _ (by rw [Lib.countB, Lib.count, show (⟨#[c]⟩ : ByteArray).data.toList = [c] from rfl, count_1 c _ _ (by omega)]; exact Nat.le_refl _)
theorem splitL_len (c : UInt8) : ∀ (l : Bs), (splitL c l).length = l.count c + 1
  | [] => rfl
  | b :: l => by
    have ih := splitL_len c l
    rw [splitL]
    split
    · rename_i h
      subst h
      rw [List.length_cons, ih, List.count_cons_self]
    · rename_i h
      obtain ⟨p, ps, h1⟩ := List.exists_cons_of_ne_nil (splitL_ne c l)
      rw [List.count_cons_of_ne h, ← ih, h1]
      rfl
def clnR (o : Option Bs) : Value := .tuple #[sv (o.getD []), .bool o.isSome]
theorem take_one {α : Type} (P : List α) (k : Nat) (p : α) (h : P[k]? = some p) : P.take (k + 1) = P.take k ++ [p] := by
  rw [List.take_add_one, h]; rfl
theorem fold_one (P : List Bs) (k : Nat) (p : Bs) (ps : List Bs) (h : P[k]? = some p) (H : (P.take k).foldl stepP (some []) = some ps) : (P.take (k + 1)).foldl stepP (some []) = stepP (some ps) p := by
  rw [take_one P k p h, List.foldl_append, H]; rfl
theorem last_one (P : List Bs) (k : Nat) (p : Bs) (h : P[k]? = some p) : (P.take (k + 1)).getLastD [] = p := by
  rw [take_one P k p h]; simp
theorem fold_none (P : List Bs) (k : Nat) (h : (P.take k).foldl stepP (some []) = none) : cleanP P = none := by
  have e : P.foldl stepP (some []) = none := by
    rw [← List.take_append_drop k P, List.foldl_append, h, stepP_none]
  rw [cleanP, e]; rfl
theorem joinP_split : ∀ (l : Bs), joinP (splitL 47 l) = 47 :: l
  | [] => rfl
  | b :: l => by
    have ih := joinP_split l
    rw [splitL]
    split
    · rename_i h; subst h
      simp only [joinP, List.flatMap_cons] at ih ⊢
      rw [ih]; rfl
    · obtain ⟨p, ps, h1⟩ := List.exists_cons_of_ne_nil (splitL_ne 47 l)
      rw [h1] at ih ⊢
      simp only [joinP, List.flatMap_cons, List.cons_append, List.cons.injEq, true_and] at ih ⊢
      exact ih
theorem joinP_app (a b : List Bs) : joinP (a ++ b) = joinP a ++ joinP b := by simp [joinP]
theorem joinP_take (P : List Bs) (k : Nat) : (joinP (P.take k)).length ≤ (joinP P).length := by
  have : joinP P = joinP (P.take k) ++ joinP (P.drop k) := by rw [← joinP_app, List.take_append_drop]
  rw [this, List.length_append]; omega
theorem joinP_last (ps : List Bs) : (joinP ps.dropLast).length ≤ (joinP ps).length := by
  rw [List.dropLast_eq_take]; exact joinP_take ps _
theorem joinP_nil (ps : List Bs) (t : ByteArray) (h : t.data.toList = joinP ps) : t.toList.isEmpty = ps.isEmpty := by
  rw [ByteArray.toList_eq, h]
  cases ps <;> simp [joinP]
theorem joinP_one (ps : List Bs) (k : Nat) (p : Bs) (h : ps[k]? = some p) : joinP (ps.take (k + 1)) = joinP (ps.take k) ++ 47 :: p := by
  rw [take_one ps k p h]; simp [joinP]
theorem cln_yes (t : ByteArray) (ps : List Bs) (last : Bs) (ht : t.data.toList = joinP ps) (hb : (dirP last || ps.isEmpty) = true) : Value.tuple #[.string (t ++ ⟨#[47]⟩), .bool true] = clnR (some (endP ps last)) := by
  have e : (t ++ ⟨#[47]⟩ : ByteArray) = ⟨(joinP ps ++ [47]).toArray⟩ := str_ext (by rw [app_data, ht])
  rw [e, endP, hb]; rfl
theorem cln_no (t : ByteArray) (ps : List Bs) (last : Bs) (ht : t.data.toList = joinP ps) (hb : (dirP last || ps.isEmpty) = false) : Value.tuple #[.string t, .bool true] = clnR (some (endP ps last)) := by
  have e : t = ⟨(joinP ps).toArray⟩ := str_ext ht
  rw [e, endP, hb]; simp [clnR]
end Go.Proofs.YtmjekdnfkgalbaaGreatDoor
namespace Go.Proofs.YtmjekdnfkgalbaaGreatDoor
open Go.RowKit
set_option maxRecDepth 100000
set_option maxHeartbeats 4000000

/-- A target. -/
structure Tgt where
  form : Int
  host : Bs
  path : Bs
  query : Bs
deriving DecidableEq
def tgt0 : Tgt := ⟨0, [], [], []⟩
abbrev tgtV (t : Tgt) : Value := .agg #[.int .i64 t.form, sv t.host, sv t.path, sv t.query]
/-- A target and an error. -/
def tgR (r : Tgt × Int) : Value := .tuple #[tgtV r.1, .int .i64 r.2]
def plainS : Bs := [45, 46, 95, 126, 33, 36, 38, 39, 40, 41, 42, 43, 44, 59, 61, 58, 64, 47]
def orgS : Bs := [45, 46, 95, 126, 33, 36, 38, 39, 40, 41, 42, 43, 44, 59, 61, 58, 64, 47, 37, 63]
def originL (s : Bs) : Option Bs := if allOf orgS s then (decodeL (fstB 63 s)).bind cleanL else none
def orgR (t : Tgt) (s : Bs) : Tgt × Int :=
  match originL s with
  | none => (tgt0, 8)
  | some p => ({ t with path := p, query := sndB 63 s }, 0)
theorem size_mk' (l : Bs) : (⟨l.toArray⟩ : ByteArray).size = l.length := rfl
theorem clnR_none : clnR none = .tuple #[sv [], .bool false] := rfl
theorem clnR_some (l : Bs) : clnR (some l) = .tuple #[sv l, .bool true] := rfl
end Go.Proofs.YtmjekdnfkgalbaaGreatDoor
