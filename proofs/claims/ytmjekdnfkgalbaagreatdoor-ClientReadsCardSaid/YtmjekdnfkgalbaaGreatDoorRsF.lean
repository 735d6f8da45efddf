/- client: what was written one behind the other is read, as far as it came, in plain words. ClientReads. ClientReads: the law. -/
import Derived.Test.YtmjekdnfkgalbaaGreatDoorRsP
import Derived.Test.YtmjekdnfkgalbaaGreatDoorRiD
import Derived.Test.YtmjekdnfkgalbaaGreatDoorRiG
import Derived.Deep.CutBlock
namespace Go.Proofs.YtmjekdnfkgalbaaGreatDoor
open Go.RowKit
set_option maxRecDepth 100000
set_option maxHeartbeats 4000000

def getM : Bs := [71, 69, 84]
def itemL (x : Bool × Rs) : Bs := (if x.1 then contW else []) ++ allR x.2 false 1 false
def strmL (l : List (Bool × Rs)) : Bs := l.flatMap itemL
def ItemOk (x : Bool × Rs) : Prop := isOneL x.2 = true ∧ x.2.b.length < 140737488355328
def okR {α : Type} (x : R3 α) : Bool := match x with | .ok _ _ => true | _ => false
def badR {α : Type} (x : R3 α) : Bool := match x with | .bad => true | _ => false
theorem rdR_whol (hd : Bool) (r : Bs) : rdR hd r = wholL hd r := by rw [whol_same]; rfl
theorem stat_cont (w : Bs) : statusL (contW ++ w) = .bad := by
  have h : contW = begB ++ [49, 48, 48, 32, 67, 111, 110, 116, 105, 110, 117, 101, 13, 10, 13, 10] := by decide
  rw [statusL, h, List.append_assoc, (eats_text begB).all, R3.bind_ok, List.cons_append, digL]
  rfl
theorem cont_bad (hd : Bool) (w : Bs) : wholL hd (contW ++ w) = .bad := by
  rw [wholL, stat_cont]; rfl
theorem cont_pre : ∀ j : Fin 26, okR (wholL false (contW.take j.val)) = false := by decide +kernel
theorem not_word (Y : Bs) (h : badR (wholL false Y) = false) : contW.isPrefixOf Y = false := by
  rw [Bool.eq_false_iff]
  intro h1
  obtain ⟨t, rfl⟩ := List.isPrefixOf_iff_prefix.1 h1
  rw [cont_bad] at h
  cases h
theorem not_pre (Y : Bs) (h : okR (wholL false Y) = true) : Y.isPrefixOf contW = false := by
  rw [Bool.eq_false_iff]
  intro h1
  have h2 := List.isPrefixOf_iff_prefix.1 h1
  have h3 := pfxQ_len _ _ h1
  have h4 : contW.length = 25 := rfl
  have h5 := cont_pre ⟨Y.length, by omega⟩
  rw [show contW.take Y.length = Y from (List.prefix_iff_eq_take.1 h2).symm, h] at h5
  cases h5
theorem enc_whole {b : Bool} (r : Rs) (Z : Bs) (h : ItemOk (b, r)) : rdR false (allR r false 1 false ++ Z) = .ok (r, false) Z := by
  rw [rdR_whol, (enc_eats r false 1 false h.1 h.2).all Z]
  rfl
theorem enc_cut {b : Bool} (r : Rs) (k : Nat) (h : ItemOk (b, r)) (hk : k < (allR r false 1 false).length) : rdR false ((allR r false 1 false).take k) = .short := by
  rw [rdR_whol]
  have h1 : allR r false 1 false = (allR r false 1 false).take k ++ (allR r false 1 false)[k] :: (allR r false 1 false).drop (k + 1) := by
    rw [← List.drop_eq_getElem_cons hk, List.take_append_drop]
  exact (enc_eats r false 1 false h.1 h.2).cut _ _ _ h1
theorem strm_cons (x : Bool × Rs) (l : List (Bool × Rs)) : strmL (x :: l) = itemL x ++ strmL l := by rw [strmL, strmL, List.flatMap_cons]
theorem skip_enc (n : Nat) (Y : Bs) (h : badR (wholL false Y) = false) : skipW n Y = 0 := skip_no _ _ (not_word Y h)
theorem skip_word (n : Nat) (Y : Bs) (h : badR (wholL false Y) = false) : skipW (n + 1) (contW ++ Y) = 25 := by
  rw [skip_yes _ _ (List.isPrefixOf_iff_prefix.2 ⟨Y, rfl⟩), show (contW ++ Y).drop 25 = Y from List.drop_left' rfl, skip_enc _ _ h]
theorem reads_plain : ∀ (its : List (Bool × Rs)) (pre : Bs) (k w : Nat) (acc : List Rs), (∀ x ∈ its, ItemOk x) → w ≤ its.length → (strmL (its.take w)).length ≤ k → (w = its.length ∨ k < (strmL (its.take (w + 1))).length) → k ≤ (strmL its).length →
    repsL ((pre ++ strmL its).take (pre.length + k)) (List.replicate its.length getM) pre.length acc = (acc ++ (its.take w).map (·.2), pre.length + (strmL (its.take w)).length, 0)
  | [], pre, k, w, acc, _, hw, _, _, _ => by
    obtain rfl : w = 0 := by simpa using hw
    rw [List.length_nil, List.replicate_zero, reps_nil]
    simp [strmL]
  | x :: xs, pre, k, w, acc, hg, hw, hwk, hor, hk => by
    obtain ⟨b, hb⟩ : ∃ b, b = (pre ++ strmL (x :: xs)).take (pre.length + k) := ⟨_, rfl⟩
    have hbd : b.drop pre.length = (strmL (x :: xs)).take k := by
      rw [hb, List.take_length_add_append, List.drop_left' rfl]
    have hgx := hg x (List.mem_cons_self ..)
    rw [← hb, List.length_cons, List.replicate_succ]
    have hhd : decide (getM = headM) = false := by decide
    obtain ⟨wd, r⟩ := x
    have hgr : ItemOk (wd, r) := hgx
    cases w with
    | zero =>
      have hkm : k < (itemL (wd, r)).length := by
        rcases hor with h | h
        · rw [List.length_cons] at h; omega
        · rw [show (wd, r) :: xs = (wd, r) :: xs from rfl, List.take_succ_cons, List.take_zero, strm_cons, strmL, List.flatMap_nil, List.append_nil] at h
          exact h
      have hbd2 : b.drop pre.length = (itemL (wd, r)).take k := by
        rw [hbd, strm_cons, List.take_append_of_le_length (by omega)]
      have hres : (acc ++ (((wd, r) :: xs).take 0).map (·.2), pre.length + (strmL (((wd, r) :: xs).take 0)).length, (0 : Int)) = (acc, pre.length, 0) := by
        simp [strmL]
      rw [hres]
      cases wd with
      | false =>
        have hi : itemL (false, r) = allR r false 1 false := rfl
        rw [hi] at hbd2 hkm
        have hc := enc_cut r k hgr hkm
        refine reps_stop b getM _ pre.length pre.length acc ?_ (.inr (by rw [hhd, hbd2]; exact hc))
        rw [hbd2, skip_enc _ _ (by rw [← rdR_whol, hc]; rfl)]; rfl
      | true =>
        have hi : itemL (true, r) = contW ++ allR r false 1 false := rfl
        have h25 : contW.length = 25 := rfl
        rw [hi] at hbd2 hkm
        by_cases hk25 : k < 25
        · rw [List.take_append_of_le_length (by omega)] at hbd2
          have hpf : (contW.take k).isPrefixOf contW = true := List.isPrefixOf_iff_prefix.2 (List.take_prefix _ _)
          have hnp : contW.isPrefixOf (contW.take k) = false := by
            rw [Bool.eq_false_iff]
            intro h
            have h1 := pfxQ_len _ _ h
            rw [List.length_take] at h1
            omega
          refine reps_stop b getM _ pre.length pre.length acc ?_ (.inl (by rw [hbd2]; exact hpf))
          rw [hbd2, skip_no _ _ hnp]; rfl
        · obtain ⟨k', rfl⟩ : ∃ k', k = 25 + k' := ⟨k - 25, by omega⟩
          have ht : (contW ++ allR r false 1 false).take (25 + k') = contW ++ (allR r false 1 false).take k' := by
            rw [← h25]; exact List.take_length_add_append k'
          rw [ht] at hbd2
          rw [List.length_append] at hkm
          have hc := enc_cut r k' hgr (by omega)
          refine reps_stop b getM _ pre.length (pre.length + 25) acc ?_ (.inr ?_)
          · rw [hbd2, skip_word _ _ (by rw [← rdR_whol, hc]; rfl)]
          · rw [hhd, ← List.drop_drop, hbd2, show (contW ++ (allR r false 1 false).take k').drop 25 = (allR r false 1 false).take k' from List.drop_left' rfl]
            exact hc
    | succ w =>
      rw [List.take_succ_cons] at hwk hor ⊢
      rw [strm_cons] at hwk hor hk ⊢
      simp only [List.length_append, List.length_cons] at hwk hor hk hw
      obtain ⟨m, hm⟩ : ∃ m, m = (itemL (wd, r)).length := ⟨_, rfl⟩
      rw [← hm] at hwk hor hk
      obtain ⟨k', rfl⟩ : ∃ k', k = m + k' := ⟨k - m, by omega⟩
      obtain ⟨Z, hZ⟩ : ∃ Z, Z = (strmL xs).take k' := ⟨_, rfl⟩
      have hZl : Z.length = k' := by rw [hZ, List.length_take]; omega
      have hbd2 : b.drop pre.length = itemL (wd, r) ++ Z := by
        rw [hbd, strm_cons, hm, List.take_length_add_append, ← hZ]
      have hbl : b.length = pre.length + (m + k') := by
        rw [hb, List.length_take, List.length_append, strm_cons, List.length_append, ← hm]
        omega
      have hx := enc_whole r Z hgr
      have hok : okR (wholL false (allR r false 1 false ++ Z)) = true := by rw [← rdR_whol, hx]; rfl
      have hnb : badR (wholL false (allR r false 1 false ++ Z)) = false := by rw [← rdR_whol, hx]; rfl
      have hstep : repsL b (getM :: List.replicate xs.length getM) pre.length acc = repsL b (List.replicate xs.length getM) (b.length - Z.length) (acc ++ [r]) := by
        cases wd with
        | false =>
          have hi : itemL (false, r) = allR r false 1 false := rfl
          rw [hi] at hbd2
          rw [reps_ok b getM _ pre.length pre.length acc r false Z (by rw [hbd2, skip_enc _ _ hnb]; rfl) (by rw [hbd2]; exact not_pre _ hok) (by rw [hhd, hbd2]; exact hx)]
          rfl
        | true =>
          have hi : itemL (true, r) = contW ++ allR r false 1 false := rfl
          rw [hi, List.append_assoc] at hbd2
          have hd25 : b.drop (pre.length + 25) = allR r false 1 false ++ Z := by
            rw [← List.drop_drop, hbd2]
            exact List.drop_left' rfl
          rw [reps_ok b getM _ pre.length (pre.length + 25) acc r false Z (by rw [hbd2, skip_word _ _ hnb]) (by rw [hd25]; exact not_pre _ hok) (by rw [hhd, hd25]; exact hx)]
          rfl
      have hIH := reads_plain xs (pre ++ itemL (wd, r)) k' w (acc ++ [r]) (fun y hy => hg y (List.mem_cons_of_mem _ hy)) (by omega) (by omega) (by omega) (by omega)
      have hb2 : (pre ++ itemL (wd, r) ++ strmL xs).take ((pre ++ itemL (wd, r)).length + k') = b := by
        rw [hb, strm_cons, List.append_assoc, List.length_append, ← hm, Nat.add_assoc]
      rw [hb2] at hIH
      rw [hstep, show b.length - Z.length = (pre ++ itemL (wd, r)).length by rw [List.length_append, ← hm]; omega, hIH]
      simp only [List.append_assoc, List.length_append, List.map_cons, List.singleton_append, ← hm]
      rw [Nat.add_assoc]
end Go.Proofs.YtmjekdnfkgalbaaGreatDoor
namespace Go.Proofs.YtmjekdnfkgalbaaGreatDoor
open Go.RowKit
set_option maxRecDepth 100000
set_option maxHeartbeats 4000000

theorem wp_appI {ops : Array Oper} {rest : List Oper} {o : Oper} {a : Act} {Q : Exit → Act → World → Prop} {w0 w : World} (hgd : o.guard = none) (s x : Operand)
    (ho : o.op = .call { callee := .builtin .append, args := #[s, x], argTypes := #[34, 34] })
    (base : Nat) (v : Value) (l : List Int) (hs : a.eval s = v) (hown : OI w0 base v l) (hw : Below w0.heap.size w0 w) (A : Option Addr) (n c B : Nat) (hx : a.eval x = .slice A n c) (m : List Int) (hr : Rd w B 1 A n (m.map iv))
    (hlen : l.length + m.length ≤ 4294967296) (hbase : base ≤ w0.heap.size)
    (h : ∀ v' w', OI w' base v' (l ++ m) → Ext w0 w' v v' → wpList Tryz.prog ops Q rest (a.put o.dst v') w') : wpList Tryz.prog ops Q (o :: rest) a w := by
  obtain ⟨i0, hi, hz0, hz1, hz2⟩ := info_parts info_int
  have hn : m.length = n := by simpa using hr.1
  subst hn
  refine wpList_append_Own w hgd s x 34 34 ho base 3 i0 _ 1 8 Tryz.underlying34 (.inl Tryz.underlying34) hi hz0 hz1 hz2 rfl (by decide) v l.length _ hs (Own.belowW hown hw) _ m.length _ hx (Src.of_rd hr (iv_one m)) (by unfold maxLen; omega) (by omega) (Nat.le_trans hbase hw.size) ?_
  intro v' w' ho' hg ha
  refine h v' w' ?_ (ext_of hw hg ha)
  have e : (l.map iv ++ m.map iv) = (l ++ m).map iv := by simp
  rw [e] at ho'
  unfold OI
  rw [List.length_append]
  exact ho'
/-- The responses, with the words ahead of some. -/
def itsL : List Bool → List RsP → List (Bool × Rs)
  | _, [] => []
  | [], x :: l => (false, x.r) :: itsL [] l
  | b :: ws, x :: l => (b, x.r) :: itsL ws l
theorem itsL_len : ∀ (ws : List Bool) (l : List RsP), (itsL ws l).length = l.length
  | _, [] => by cases ‹List Bool› <;> rfl
  | [], x :: l => by rw [itsL, List.length_cons, List.length_cons, itsL_len [] l]
  | b :: ws, x :: l => by rw [itsL, List.length_cons, List.length_cons, itsL_len ws l]
theorem itsL_at : ∀ (ws : List Bool) (l : List RsP) (k : Nat) (x : RsP), l[k]? = some x → (itsL ws l)[k]? = some ((ws[k]?).getD false, x.r)
  | _, [], k, x, h => by simp at h
  | [], y :: l, 0, x, h => by
    obtain rfl : y = x := by simpa using h
    rfl
  | [], y :: l, k + 1, x, h => by
    rw [itsL, List.getElem?_cons_succ, itsL_at [] l k x (by simpa using h)]; rfl
  | b :: ws, y :: l, 0, x, h => by
    obtain rfl : y = x := by simpa using h
    rfl
  | b :: ws, y :: l, k + 1, x, h => by
    rw [itsL, List.getElem?_cons_succ, itsL_at ws l k x (by simpa using h)]; rfl
theorem itsL_rs : ∀ (ws : List Bool) (l : List RsP), (itsL ws l).map (·.2) = l.map (·.r)
  | _, [] => by cases ‹List Bool› <;> rfl
  | [], x :: l => by rw [itsL, List.map_cons, List.map_cons, itsL_rs [] l]
  | b :: ws, x :: l => by rw [itsL, List.map_cons, List.map_cons, itsL_rs ws l]
/-- How far the first ones reach. -/
def reachL (its : List (Bool × Rs)) (k : Nat) : Nat := (strmL (its.take k)).length
def endsI (its : List (Bool × Rs)) (k : Nat) : List Int := (List.range k).map fun j => (reachL its (j + 1) : Int)
theorem endsI_succ (its : List (Bool × Rs)) (k : Nat) : endsI its (k + 1) = endsI its k ++ [(reachL its (k + 1) : Int)] := by
  rw [endsI, List.range_succ, List.map_append]; rfl
theorem strm_app (a b : List (Bool × Rs)) : strmL (a ++ b) = strmL a ++ strmL b := by rw [strmL, strmL, strmL, List.flatMap_append]
theorem strm_step (its : List (Bool × Rs)) (k : Nat) (x : Bool × Rs) (h : its[k]? = some x) : strmL (its.take (k + 1)) = strmL (its.take k) ++ itemL x := by
  rw [take_at its k x h, strm_app]
  rw [show strmL [x] = itemL x by rw [strmL, List.flatMap_cons, List.flatMap_nil, List.append_nil]]
theorem reach_mono (its : List (Bool × Rs)) : ∀ (j k : Nat), j ≤ k → reachL its j ≤ reachL its k := by
  intro j k h
  obtain ⟨m, rfl⟩ : ∃ m, k = j + m := ⟨k - j, by omega⟩
  rw [reachL, reachL, List.take_add, strm_app, List.length_append]
  omega
theorem reach_all (its : List (Bool × Rs)) : reachL its its.length = (strmL its).length := by rw [reachL, List.take_length]
/-- How many came whole. -/
theorem whole_ex (its : List (Bool × Rs)) (K : Nat) : ∃ w, w ≤ its.length ∧ reachL its w ≤ K ∧ (w = its.length ∨ K < reachL its (w + 1)) := by
  have key : ∀ n, n ≤ its.length → ∃ w, w ≤ n ∧ reachL its w ≤ K ∧ (w = n ∨ K < reachL its (w + 1)) := by
    intro n
    induction n with
    | zero => intro _; exact ⟨0, Nat.le_refl _, by simp [reachL, strmL], .inl rfl⟩
    | succ n ih =>
      intro hn
      obtain ⟨w, h1, h2, h3⟩ := ih (by omega)
      rcases h3 with rfl | h3
      · by_cases h4 : reachL its (w + 1) ≤ K
        · exact ⟨w + 1, Nat.le_refl _, h4, .inl rfl⟩
        · exact ⟨w, by omega, h2, .inr (by omega)⟩
      · exact ⟨w, by omega, h2, .inr h3⟩
  exact key _ (Nat.le_refl _)
end Go.Proofs.YtmjekdnfkgalbaaGreatDoor
namespace Go.Proofs.YtmjekdnfkgalbaaGreatDoor
open Go.RowKit
set_option maxRecDepth 100000
set_option maxHeartbeats 4000000

theorem fsz_rfs : ∀ l : List Fd, fsz l = (rfsL l).length + l.length
  | [] => rfl
  | f :: l => by
    have h : (rfsL (f :: l)) = rfL f ++ rfsL l := by rw [rfsL, rfsL, List.flatMap_cons]
    have h2 : (rfL f).length = f.1.length + f.2.length + 4 := by
      rw [rfL]
      simp only [List.length_append]
      have h3 : csB.length = 2 := rfl
      have h4 : crlf.length = 2 := rfl
      omega
    rw [fsz, fsz_rfs l, h, List.length_append, h2, List.length_cons]
    omega
theorem light_26 (r : Rs) (h1 : fsz r.f ≤ 4000) (h2 : r.b.length ≤ 500) (h3 : r.p.length ≤ 100) : Light r :=
  ⟨by omega, by omega, by rw [← fsz_rfs]; exact h1, fun f hf => by have := fsz_mem _ f hf; omega⟩
theorem all_30 (r : Rs) (h : Light r) (ho : isOneL r = true) : (allR r false 1 false).length ≤ 30000 := by
  obtain ⟨⟨a1, a2⟩, -⟩ := one_parts r ho
  have h1 := start_len r.st (by omega)
  have h2 := code_len r 1 (by have := h.b; omega)
  have h3 := last_len 1 false
  have hb := h.b
  have h4 : (bodyR r false 1).length ≤ 20000 := by
    rw [bodyR]
    split
    · simp
    · split
      · exact cut_sum r h ho
      · omega
  have h5 := h.f
  rw [allR, headR]
  simp only [List.length_append, crlf, List.length_cons, List.length_nil] at *
  omega
/-- l[:hi] of responses, as a rule of the walk. -/
theorem rs_rule (A : Option Addr) (n c hi : Nat) (hhi : hi ≤ n) (hc : n ≤ c) (w : World) :
    (Instr.sliceAt 24 (.slice A n c) none (some (.int .i64 (hi : Int))) none).run Tryz.prog w = .ok (.slice A hi c) w := by
  have hu : Tryz.prog.underlying 24 = some (.slice (Tryz.prog.elem 24)) := by kernel_rfl
  have hz : ∀ w : World, (sizeOf (Tryz.prog.elem 24)).run Tryz.prog w = .ok 4 w := fun w => by kernel_rfl
  rw [run_sliceAt_slice w 24 _ _ _ _ hu, run_slice_h w 24 A n c hu .i64 hi (by omega) (by omega), hz]
  cases A <;> simp [Result.andThen, sliced, Addr.add]
theorem item_len (x : Bool × Rs) (h : Light x.2) (ho : isOneL x.2 = true) : (itemL x).length ≤ 30100 := by
  have h1 := all_30 x.2 h ho
  rw [itemL, List.length_append]
  split
  · have h2 : contW.length = 25 := rfl
    omega
  · simp only [List.length_nil]; omega
theorem law_CReads (A : Option Addr) (n c : Nat) (ls : List RsP) (Aw : Option Addr) (nw cw : Nat) (ws : List Bool) (cut : Int) (w : World) (hL : RRs w A n ls) (hnc : n ≤ c)
    (hz : ∀ x ∈ ls, (x.cf ≤ maxLen ∧ x.cb ≤ maxLen ∧ x.cp ≤ maxLen) ∧ ∀ f ∈ x.r.f, f.1.length ≤ 140737488355328 ∧ f.2.length ≤ 140737488355328)
    (hW : Rd w w.heap.size 1 Aw nw (ws.map Value.bool)) :
    Calls Tryz.prog 4 #[.slice A n c, .slice Aw nw cw, .int .i64 cut] w fun e w' => e = .returned (.bool true) ∧ Below w.heap.size w w' := by
  have hln := hL.len
  by_cases hn : 20 < n
  · have hn' : (20 : Int) < (n : Int) := by omega
    clear hn
    go_enter Tryz.func4, Tryz.ntmps4
    go_wp2_with fail
    go_ret
    exact ⟨rfl, Below.refl _ _⟩
  · have hn' : ¬ (20 : Int) < (n : Int) := by omega
    obtain ⟨its, hits⟩ : ∃ its, its = itsL ws ls := ⟨_, rfl⟩
    have HI := Lib.hid hits
    have HLN := Lib.hid (show ls.length = n from hln)
    have HN := Lib.hid (show n ≤ 20 by omega)
    clear hn hits hln
    go_enter Tryz.func4, Tryz.ntmps4
    go_wp2_with fail
    go_loopw [10, 7, 8, 9] (fun i vb ve vm wr => ∃ k : Nat, i = .int .i64 k ∧ k ≤ n ∧ OB wr w.heap.size vb (strmL (its.take k)) ∧ OI wr w.heap.size ve (endsI its k) ∧ OS wr w.heap.size vm (List.replicate k getM) ∧ Below w.heap.size w wr ∧ Hid ((strmL (its.take k)).length ≤ k * 30100 ∧ (∀ x ∈ its.take k, ItemOk x) ∧ ∀ x ∈ ls.take k, x.r.f.length ≤ 100000 ∧ x.r.b.length ≤ 100000 ∧ x.r.p.length ≤ 100000)) (fun i _ _ _ _ => n - (intOf i).toNat)
    case atStart => exact ⟨0, rfl, Nat.zero_le _, OB.nil _ _, OI.nil _ _, OS.nil _ _, Below.refl _ _, Lib.hid ⟨Nat.zero_le _, fun x hx => by simp at hx, fun x hx => by simp at hx⟩⟩
    case round =>
      obtain ⟨k, rfl, hk, hob, hoi, hos, LB, HK⟩ := hrel
      obtain ⟨B, hB⟩ : ∃ B, strmL (its.take k) = B := ⟨_, rfl⟩
      obtain ⟨EI, hEI⟩ : ∃ EI, endsI its k = EI := ⟨_, rfl⟩
      obtain ⟨M, hM⟩ : ∃ M, List.replicate k getM = M := ⟨_, rfl⟩
      rw [hB] at hob HK
      rw [hEI] at hoi
      rw [hM] at hos
      obtain ⟨Ab0, cb0, rfl, -⟩ := hob.form
      obtain ⟨Ai, ci, rfl, -⟩ := OI.form hoi
      obtain ⟨As, cs, rfl, -⟩ := hos.form
      have HB := Lib.hid hB
      have HEI := Lib.hid hEI
      have HM := Lib.hid hM
      clear hB hEI hM
      by_cases hkn : k < n
      · have hkn' : (k : Int) < (n : Int) := by omega
        obtain ⟨x, hx⟩ : ∃ x, ls[k]? = some x := ⟨_, List.getElem?_eq_getElem (by rw [HLN.out]; exact hkn)⟩
        obtain ⟨hzc, hzf⟩ := hz x (List.mem_of_getElem? hx)
        have rx := (hL.rq x (List.mem_of_getElem? hx)).belowW LB
        obtain ⟨b1, o1, rfl, hb1, x0, x1, x2, x3⟩ := (hL.belowW LB).at_ hx
        have HIX := Lib.hid (show its[k]? = some ((ws[k]?).getD false, x.r) by rw [HI.out]; exact itsL_at ws ls k x hx)
        have HX := Lib.hid hx
        obtain ⟨r, Af, cf, Ab, cb, Ap, cp⟩ := x
        dsimp only at hzc hzf x0 x1 x2 x3 HIX
        have hH := law_heavy Af r.f.length cf r.f wr rx.rf hzf (Nat.le_trans rx.cf hzc.1)
        clear hx
        go_wp2_with fail
        refine hH.mono ?_
        rintro e w2 ⟨⟨hb, rfl, hb2⟩, L2⟩
        have N2 := stepW LB L2
        have rx2 := rx.belowW L2
        have y0 := (L2.cell (p := ⟨b1, o1 + k * 4, none⟩) hb1).trans x0
        have y1 := (L2.cell (p := ⟨b1, o1 + k * 4 + 1, none⟩) hb1).trans x1
        have y2 := (L2.cell (p := ⟨b1, o1 + k * 4 + 2, none⟩) hb1).trans x2
        have y3 := (L2.cell (p := ⟨b1, o1 + k * 4 + 3, none⟩) hb1).trans x3
        clear x0 x1 x2 x3 hH
        cases hb
        case true =>
          clear hb2
          go_wp2_with fail
          go_ret
          exact ⟨rfl, N2⟩
        case false =>
        have hfs := hb2 rfl
        clear hb2
        by_cases hbb : 500 < r.b.length
        · have hbb' : (500 : Int) < (r.b.length : Int) := by omega
          clear hfs hbb
          go_wp2_with fail
          go_ret
          exact ⟨rfl, N2⟩
        have hbb' : ¬ (500 : Int) < (r.b.length : Int) := by omega
        by_cases hpp : 100 < r.p.length
        · have hpp' : (100 : Int) < (r.p.length : Int) := by omega
          clear hfs hbb hpp
          go_wp2_with fail
          go_ret
          exact ⟨rfl, N2⟩
        have hpp' : ¬ (100 : Int) < (r.p.length : Int) := by omega
        have hLt := light_26 r hfs (by omega) (by omega)
        have hE0 := ref_Encode ⟨r, Af, cf, Ab, cb, Ap, cp⟩ false 1 false w2 rx2 (light_z hLt) (fun _ => hLt)
        have hE : Calls Tryz.prog 12 #[.agg #[.int .i64 r.st, .slice Af r.f.length cf, .slice Ab r.b.length cb, .slice Ap r.p.length cp], .bool false, .int .i64 1, .bool false] w2 (EncPost w2 (encR r false 1 false)) := hE0
        rw [enc_light _ _ _ _ hLt] at hE
        clear hE0 hfs hbb hpp
        cases hone : isOneL r
        · rw [hone, if_neg (by decide)] at hE
          clear hone
          go_wp2_with fail
          refine hE.mono ?_
          intro e w3 hp
          obtain ⟨A2, c2, rfl, L3⟩ := hp.no
          have N3 := stepW N2 L3
          clear hE hp
          go_wp2_with fail
          refine (law_known26 _).mono ?_
          rintro e w4 ⟨rfl, L4⟩
          go_wp2
          go_ret
          exact ⟨rfl, stepW N3 L4⟩
        · rw [hone, if_pos rfl] at hE
          have hil := item_len ((ws[k]?).getD false, r) hLt hone
          have HOK := Lib.hid (show ItemOk ((ws[k]?).getD false, r) from ⟨hone, by have := hLt.b; show r.b.length < _; omega⟩)
          have HBD := Lib.hid (show r.f.length ≤ 100000 ∧ r.b.length ≤ 100000 ∧ r.p.length ≤ 100000 from ⟨by have := hLt.f; omega, by have := hLt.b; omega, by have := hLt.p; omega⟩)
          have hst := strm_step its k _ HIX.out
          obtain ⟨wd, hwd⟩ : ∃ wd, (ws[k]?).getD false = wd := ⟨_, rfl⟩
          rw [hwd] at hst hil HOK
          have hitem : itemL (wd, r) = (if wd then contW else []) ++ allR r false 1 false := rfl
          rw [hitem] at hst hil
          obtain ⟨E, hEE⟩ : ∃ E, allR r false 1 false = E := ⟨_, rfl⟩
          rw [hEE] at hE hst hil
          rw [HB.out] at hst
          have HST := Lib.hid hst
          have HIL := Lib.hid hil
          have HWD := Lib.hid hwd
          clear hone hLt hst hil hwd hitem hEE HIX
          go_wp2_with fail
          refine hE.mono ?_
          intro e w3 hp
          obtain ⟨A2, c2, rfl, hc2, hc3, hoE, -, L3⟩ := hp.yes
          have hoE : OB w3 w2.heap.size (.slice A2 E.length c2) E := hoE
          have hneE : ∀ j, (Value.slice Ab0 B.length cb0).ownBlock = some j → (Value.slice A2 E.length c2).ownBlock ≠ some j := fun j h1 h2 => by
            have h3 := Own.lt2 hob h1
            have h4 := (hoE.lt j h2).1
            have h5 := L2.size
            omega
          have N3 := stepW N2 L3
          have hob3 := (hob.belowW L2).belowW L3
          have hoi3 : OI w3 w.heap.size (.slice Ai EI.length ci) EI := Own.belowW (Own.belowW hoi L2) L3
          have hos3 := (hos.belowW L2).belowW L3
          have hW3 := hW.below N3
          clear hE hp hob hoi hos y0 y1 y2 y3 rx rx2 L2 L3 LB N2
          go_upto_region 14 with (fail)
          have hHK := HK.out.1
          have hNN := HN.out
          have hIL := HIL.out
          rw [List.length_append] at hIL
          have hBle : B.length ≤ 700000 := by omega
          have hEle : E.length ≤ 70000 := by omega
          have hwl : w.heap.size ≤ w3.heap.size := N3.size
          go_cut [72] (fun v72 wx => v72 = .bool wd ∧ w3 = wx)
          case first =>
            by_cases hkw : k < nw
            · have hkw' : (k : Int) < (nw : Int) := by omega
              have hwl' : ws.length = nw := by simpa using hW.1
              obtain ⟨bw, hbw⟩ : ∃ bw, ws[k]? = some bw := ⟨_, List.getElem?_eq_getElem (by omega)⟩
              obtain ⟨g0, o0, rfl, hg0, hc0⟩ := hW3.2 (by omega)
              have z0 := hc0 k (.bool bw) (map_get _ _ _ _ hbw)
              have HWW := Lib.hid (show bw = wd by rw [← HWD.out, hbw]; rfl)
              clear hkw hwl' hbw hc0
              go_wp2_with fail
              go_meet
              case rel => exact ⟨by rw [HWW.out], rfl⟩
            · have hkw' : ¬ (k : Int) < (nw : Int) := by omega
              have hwl' : ws.length = nw := by simpa using hW.1
              have HWW := Lib.hid (show wd = false by rw [← HWD.out, List.getElem?_eq_none (by omega)]; rfl)
              clear hkw hwl'
              go_wp2_with fail
              go_meet
              case rel => exact ⟨by rw [HWW.out], rfl⟩
          case rest =>
            obtain ⟨rfl, rfl⟩ := hcut
            obtain ⟨B4, hB4⟩ : ∃ B4, B4 = B ++ (if wd then contW else []) := ⟨_, rfl⟩
            have hB4l : B4.length ≤ 700025 := by
              rw [hB4, List.length_append]
              split
              · have h2 : contW.length = 25 := rfl
                omega
              · simp only [List.length_nil]; omega
            have HB4 := Lib.hid hB4
            clear hB4
            go_upto_if 72 with (fail)
            go_cut [7] (fun v7 wx => ∃ (A4 : Option Addr) (c4 : Nat), v7 = .slice A4 B4.length c4 ∧ OB wx w.heap.size (.slice A4 B4.length c4) B4 ∧ OI wx w.heap.size (.slice Ai EI.length ci) EI ∧ OS wx w.heap.size (.slice As M.length cs) M ∧ OB wx w2.heap.size (.slice A2 E.length c2) E ∧ (∀ j, (Value.slice A4 B4.length c4).ownBlock = some j → (Value.slice A2 E.length c2).ownBlock ≠ some j) ∧ Below w.heap.size w wx)
            case first =>
              cases wd
              · have hBB : B4 = B := by rw [HB4.out]; exact List.append_nil _
                have HBB := Lib.hid hBB
                clear hBB
                go_wp2_with fail
                go_meet
                case rel =>
                  have e := HBB.out
                  subst e
                  exact ⟨Ab0, cb0, rfl, hob3, hoi3, hos3, hoE, hneE, N3⟩
              · have hBB : B4 = B ++ contW := HB4.out
                have HBB := Lib.hid hBB
                clear hBB
                go_wp2_with fail
                refine (ref_Cont _).mono ?_
                rintro e w4 ⟨rfl, rfl⟩
                go_wp2_with (at_builtin; refine wp_appStr rfl (.tmp 73) (.tmp 74) rfl w.heap.size (.slice Ab0 B.length cb0) B rfl hob3 ⟨contW.toArray⟩ rfl (by have h2 : (⟨contW.toArray⟩ : ByteArray).size = 25 := rfl; omega) hwl ?_; intro v5 w5 ho5 hx5; rw [show B ++ (⟨contW.toArray⟩ : ByteArray).data.toList = B4 from HBB.out.symm] at ho5; obtain ⟨A5, c5, hv5, -, -, -⟩ := ho5.form; subst hv5)
                go_meet
                case rel =>
                  exact ⟨A5, c5, rfl, ho5, hx5.keep hoi3 (Own.two hob3 hoi3 (by decide)), hx5.keep hos3 (Own.two hob3 hos3 (by decide)), hx5.keep hoE hneE, fun j h1 h2 => (hx5.own j h1).elim (fun h3 => hneE j h3 h2) (fun h3 => by have := Own.lt2 hoE h2; omega), N3.trans (hx5.below hob3 (Nat.le_refl _) hwl)⟩
            case rest =>
              obtain ⟨A4, c4, rfl, hob4, hoi4, hos4, hoE4, hneE4, N4⟩ := hcut
              obtain ⟨w4, rfl⟩ : ∃ w4, w4 = wc := ⟨_, rfl⟩
              clear hob3 hoi3 hos3 hoE hneE hW3 hHK hNN hIL
              have hw4 : w.heap.size ≤ w4.heap.size := N4.size
              obtain ⟨B5, hB5⟩ : ∃ B5, B4 ++ E = B5 := ⟨_, rfl⟩
              have hB5l : B5.length ≤ 800000 := by rw [← hB5, List.length_append]; omega
              have e1 : strmL (its.take (k + 1)) = B5 := by rw [HST.out, ← hB5, HB4.out, List.append_assoc]
              have e2 : endsI its (k + 1) = EI ++ [(B5.length : Int)] := by rw [endsI_succ, HEI.out, reachL, e1]
              have e3 : List.replicate (k + 1) getM = M ++ [getM] := by rw [List.replicate_succ', HM.out]
              have hEIl : EI.length ≤ 20 := by
                have := HN.out
                rw [← HEI.out, endsI, List.length_map, List.length_range]; omega
              have hMl : M.length ≤ 20 := by
                have := HN.out
                rw [← HM.out, List.length_replicate]; omega
              have hit : its.take (k + 1) = its.take k ++ [(wd, r)] := by
                have h := itsL_at ws ls k _ HX.out
                rw [← HI.out, HWD.out] at h
                exact take_at its k _ h
              have hlt : ls.take (k + 1) = ls.take k ++ [⟨r, Af, cf, Ab, cb, Ap, cp⟩] := take_at ls k _ HX.out
              have HNext := Lib.hid (show (strmL (its.take (k + 1))).length ≤ (k + 1) * 30100 ∧ (∀ x ∈ its.take (k + 1), ItemOk x) ∧ ∀ x ∈ ls.take (k + 1), x.r.f.length ≤ 100000 ∧ x.r.b.length ≤ 100000 ∧ x.r.p.length ≤ 100000 by
                obtain ⟨h1, h2, h3⟩ := HK.out
                refine ⟨?_, fun x hx => ?_, fun x hx => ?_⟩
                · have h4 := HIL.out
                  rw [HST.out, List.length_append]
                  omega
                · rw [hit] at hx
                  rcases List.mem_append.1 hx with h9 | h9
                  · exact h2 x h9
                  · obtain rfl : x = _ := by simpa using h9
                    exact HOK.out
                · rw [hlt] at hx
                  rcases List.mem_append.1 hx with h9 | h9
                  · exact h3 x h9
                  · obtain rfl : x = _ := by simpa using h9
                    exact HBD.out)
              have HE1 := Lib.hid e1
              have HE2 := Lib.hid e2
              have HE3 := Lib.hid e3
              have HB5 := Lib.hid hB5
              clear e1 e2 e3 hit hlt hB5 hB4l
              have hrE := (Own.rdS hoE4).2.2
              go_upto_region 17 with (at_builtin; refine wp_appRd rfl (.tmp 76) (.tmp 77) rfl w.heap.size (.slice A4 B4.length c4) B4 rfl hob4 (Below.refl _ _) A2 E.length c2 _ rfl E hrE (by have := congrArg List.length HB5.out; rw [List.length_append] at this; omega) hw4 ?_; intro v5 w5 ho5 hx5; rw [HB5.out] at ho5; obtain ⟨A5, c5, hv5, -, -, -⟩ := ho5.form; subst hv5)
              have hoi5 := hx5.keep hoi4 (Own.two hob4 hoi4 (by decide))
              have hos5 := hx5.keep hos4 (Own.two hob4 hos4 (by decide))
              have N5 := N4.trans (hx5.below hob4 (Nat.le_refl _) hw4)
              have hw5 : w.heap.size ≤ w5.heap.size := N5.size
              clear hx5 hob4 hoi4 hos4 hoE4 hneE4 hrE
              obtain ⟨EJ, hEJ⟩ : ∃ EJ, EI ++ [(B5.length : Int)] = EJ := ⟨_, rfl⟩
              obtain ⟨MJ, hMJ⟩ : ∃ MJ, M ++ [getM] = MJ := ⟨_, rfl⟩
              have HEJ := Lib.hid (HE2.out.trans hEJ)
              have HMJ := Lib.hid (HE3.out.trans hMJ)
              go_upto_region 18 with (at_builtin; refine wp_appI rfl (.tmp 79) (.tmp 82) rfl w.heap.size (.slice Ai EI.length ci) EI rfl hoi5 (allocW (Below.refl w5.heap.size w5) _) (some ⟨w5.heap.size, 0, none⟩) 1 1 _ rfl [(B5.length : Int)] (Rd.new w5 _ rfl _ _ 1 1 rfl) (by rw [List.length_singleton]; omega) hw5 ?_; intro v6 w6 ho6 hx6; rw [hEJ] at ho6; obtain ⟨A6, c6, hv6, -⟩ := OI.form ho6; subst hv6)
              have hob6 := hx6.keep ho5 (Own.two hoi5 ho5 (by decide))
              have hos6 := hx6.keep hos5 (Own.two hoi5 hos5 (by decide))
              have N6 := N5.trans (hx6.below hoi5 (Nat.le_refl _) hw5)
              have hw6 : w.heap.size ≤ w6.heap.size := N6.size
              clear hx6 hoi5 hos5 ho5 hEJ
              go_wp2_with (at_builtin; refine wp_appS1 rfl (.tmp 84) (.tmp 85) rfl w.heap.size (.slice As M.length cs) M rfl hos6 w6.heap.size rfl ⟨#[71, 69, 84]⟩ rfl (by omega) hw6 ?_; intro v7 w7 ho7 hx7; rw [show M ++ [(⟨#[71, 69, 84]⟩ : ByteArray).data.toList] = MJ from hMJ] at ho7; obtain ⟨A7, c7, hv7, -⟩ := ho7.form; subst hv7)
              have hob7 := hx7.keep hob6 (Own.two hos6 hob6 (by decide))
              have hoi7 := hx7.keep ho6 (Own.two hos6 ho6 (by decide))
              have N7 := N6.trans (hx7.below hos6 (Nat.le_refl _) hw6)
              clear hx7 hob6 ho6 hos6 hMJ
              go_roundw
              case rel => exact ⟨k + 1, by go_num, hkn, by rw [HE1.out]; exact hob7, by rw [HEJ.out]; exact hoi7, by rw [HMJ.out]; exact ho7, N7, HNext⟩
              case measure => simp only [intOf]; omega
      · have hkn' : ¬ (k : Int) < (n : Int) := by omega
        obtain rfl : k = n := by omega
        have hitl : its.length = k := by rw [HI.out, itsL_len, HLN.out]
        have htk : its.take k = its := by rw [← hitl, List.take_length]
        have hBs : strmL its = B := by rw [← HB.out, htk]
        obtain ⟨h1, h2, h3⟩ := HK.out
        rw [htk] at h2
        have htl : ls.take k = ls := by rw [← HLN.out, List.take_length]
        rw [htl] at h3
        have hNN := HN.out
        have hBle : B.length ≤ 700000 := by omega
        obtain ⟨L1, hL1⟩ : ∃ L1, L1 = B.length + 1 := ⟨_, rfl⟩
        obtain ⟨K, hK, hKn⟩ := mod_len cut L1 (by omega)
        obtain ⟨w', hw1, hw2, hw3⟩ := whole_ex its K
        have hreads := reads_plain its [] K w' [] h2 hw1 hw2 hw3 (by rw [hBs]; omega)
        rw [List.nil_append, List.length_nil, Nat.zero_add, hBs, hitl, HM.out, List.nil_append, Nat.zero_add, List.map_take, HI.out, itsL_rs, ← HI.out, ← List.map_take] at hreads
        have hreads2 : repsL (B.take K) M 0 [] = ((ls.take w').map (·.r), reachL its w', 0) := hreads
        have hMl : M.length = k := by rw [← HM.out, List.length_replicate]
        have hEIl : EI.length = k := by rw [← HEI.out, endsI, List.length_map, List.length_range]
        have hEat : ∀ j, j < k → EI[j]? = some (reachL its (j + 1) : Int) := fun j hj => by
          rw [← HEI.out, endsI, List.getElem?_map, List.getElem?_range hj]; rfl
        obtain ⟨A9, c9, hc9, hs9, hr9⟩ := to_rule cb0 K (Own.rdS hob).2.2 (by omega) (Own.rdS hob).1
        obtain ⟨D, hD⟩ : ∃ D, B.take K = D := ⟨_, rfl⟩
        have hDl : D.length = K := by rw [← hD, List.length_take]; omega
        rw [hD] at hreads2 hr9
        have hs9' : ∀ w : World, (Instr.sliceAt 22 (.slice Ab0 B.length cb0) none (some (.int .i64 (K : Int))) none).run Tryz.prog w = .ok (.slice A9 D.length c9) w := fun w => by rw [hs9 w, hDl]
        have hC := cl_Replies A9 c9 D As cs M wr (by rw [hDl]; exact hr9) (by omega) (by omega) (Own.rdS hos).2.2 (Own.rdS hos).1 (by omega)
        rw [hreads2] at hC
        have hwL : IntKind.i64.wrap ((B.length : Int) + 1) = (L1 : Int) := by rw [IntWalk.i64_in _ (by omega)]; omega
        have hL0 : ((L1 : Int) == 0) = false := by rw [Bool.eq_false_iff]; intro h; have := beq_iff_eq.1 h; omega
        have hL2 : ¬ (L1 : Int) = 0 := by omega
        have kand := i64_and30
        have HW1 := Lib.hid hw1
        have HW2 := Lib.hid hw2
        have HW3 := Lib.hid hw3
        have HEA := Lib.hid hEat
        have HIT := Lib.hid hitl
        have H3 := Lib.hid h3
        have HEL := Lib.hid hEIl
        clear hitl htk hBs h1 h2 htl hL1 hKn hw1 hw2 hw3 hreads hreads2 hMl hEIl hEat hs9 hD h3
        have HDL := Lib.hid hDl
        clear hDl hr9
        go_wp2_with fail
        refine hC.mono ?_
        rintro e w5 ⟨A3, c3, l3, rfl, hl3, hc3, R3, L5⟩
        dsimp only at hl3
        have hoi5 : OI w5 w.heap.size (.slice Ai EI.length ci) EI := Own.belowW hoi L5
        have N5 := stepW LB L5
        clear hC hob hoi hos LB L5
        dsimp only
        obtain ⟨U, hU⟩ : ∃ U, reachL its w' = U := ⟨_, rfl⟩
        have HU := Lib.hid hU
        rw [hU]
        clear hU
        have hri := (Own.rdS hoi5).2.2
        rw [HEL.out] at hri
        have HEL2 := HEL.out
        generalize EI.length = ne at *
        subst HEL2
        go_wp2_with fail
        go_loopw [17, 18] (fun a u ww => ∃ j : Nat, j ≤ w' ∧ a = .int .i64 j ∧ u = .int .i64 (reachL its j) ∧ w5 = ww) (fun a _ _ => w' - (intOf a).toNat)
        case atStart => exact ⟨0, Nat.zero_le _, rfl, by simp [reachL, strmL], rfl⟩
        case round =>
          obtain ⟨j, hj, rfl, rfl, rfl⟩ := hrel
          have hwk : w' ≤ ne := by have := HW1.out; have := HIT.out; omega
          obtain ⟨T, hT⟩ : ∃ T, T = decide (j < w') := ⟨_, rfl⟩
          have HT := Lib.hid hT
          go_upto_region 22 with (fail)
          go_cut [113] (fun v113 wx => v113 = .bool T ∧ w5 = wx)
          case first =>
            by_cases hjn : j < ne
            · have hjn' : (j : Int) < (ne : Int) := by omega
              obtain ⟨g0, o0, rfl, hg0, hc0⟩ := hri.2 (by omega)
              have z0 := hc0 j (.int .i64 (reachL its (j + 1) : Int)) (map_get _ _ _ _ (HEA.out j hjn))
              by_cases hjw : j < w'
              · have h1 := reach_mono its (j + 1) w' (by omega)
                have h2 := HW2.out
                have h3 : ((reachL its (j + 1) : Nat) : Int) ≤ (K : Int) := by omega
                have HTT := Lib.hid (hT.trans (decide_eq_true hjw))
                clear hT hjw h1 h2 hc0
                go_wp2_with fail
                go_meet
                case rel => exact ⟨by rw [HTT.out], rfl⟩
              · obtain rfl : j = w' := by omega
                have h2 : K < reachL its (j + 1) := by
                  rcases HW3.out with h | h
                  · have := HIT.out; omega
                  · exact h
                have h3 : ¬ ((reachL its (j + 1) : Nat) : Int) ≤ (K : Int) := by omega
                have HTT := Lib.hid (hT.trans (decide_eq_false hjw))
                clear hT hjw h2 hc0
                go_wp2_with fail
                go_meet
                case rel => exact ⟨by rw [HTT.out], rfl⟩
            · have hjn' : ¬ (j : Int) < (ne : Int) := by omega
              have HTT := Lib.hid (hT.trans (decide_eq_false (by omega)))
              clear hT hjn
              go_wp2_with fail
              go_meet
              case rel => exact ⟨by rw [HTT.out], rfl⟩
          case rest =>
            obtain ⟨rfl, rfl⟩ := hcut
            clear hT
            cases T
            · have hjw : j = w' := by have h := of_decide_eq_false HT.out.symm; omega
              subst hjw
              rw [HU.out]
              have hsl := rs_rule A ne c j hwk hnc
              have hLk := (hL.belowW N5).cut hwk
              have hlk : (ls.take j).length = j := by rw [List.length_take, HLN.out]; omega
              have hSp := law_responsesR A3 A c3 c l3 (ls.take j) w5 R3 (by rw [hlk]; exact hLk) hl3 (by
                have h := congrArg List.length hl3
                rw [List.length_map, List.length_map, hlk] at h
                omega) (fun x hx => by
                have h9 : x.r ∈ (ls.take j).map (·.r) := by rw [← hl3]; exact List.mem_map_of_mem hx
                obtain ⟨y, hy, hyx⟩ := List.mem_map.1 h9
                rw [← hyx]
                exact H3.out y (List.mem_of_mem_take hy))
              rw [hlk] at hSp
              clear hlk hLk hri
              generalize l3.length = n3 at *
              go_wp2_with fail
              refine hSp.mono ?_
              rintro e w6 ⟨rfl, L6⟩
              have N6 := stepW N5 L6
              clear hSp
              go_wp2_with fail
              refine (law_known26 _).mono ?_
              rintro e w7 ⟨rfl, L7⟩
              go_wp2
              go_ret
              exact ⟨rfl, stepW N6 L7⟩
            · have hjw : j < w' := of_decide_eq_true HT.out.symm
              obtain ⟨g0, o0, rfl, hg0, hc0⟩ := hri.2 (by omega)
              have z0 := hc0 j (.int .i64 (reachL its (j + 1) : Int)) (map_get _ _ _ _ (HEA.out j (by omega)))
              have hjn' : (j : Int) < (ne : Int) := by omega
              clear hc0
              go_wp2_with fail
              go_roundw
              case rel => exact ⟨j + 1, hjw, by go_num, rfl, trivial⟩
              case measure => simp only [intOf]; omega
end Go.Proofs.YtmjekdnfkgalbaaGreatDoor
