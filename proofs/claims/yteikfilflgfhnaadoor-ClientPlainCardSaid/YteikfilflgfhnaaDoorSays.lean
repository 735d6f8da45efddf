/- Two texts, two rows of fields: whether they are one; the known answers. -/
import Derived.Test.YteikfilflgfhnaaDoorCanned
import Derived.Deep.QuietTactic
import Derived.BigQuiet
import Derived.Laws.StructEq
import Derived.Lib.SmallJoins
namespace Go.Proofs.YteikfilflgfhnaaDoor
open Go.RowKit
set_option maxRecDepth 100000
set_option maxHeartbeats 1000000

theorem neT {a b : Int} (h : (a != b) = true) : a ≠ b := by simpa using h
theorem neF {a b : Int} (h : (a != b) = false) : a = b := by simpa using h
theorem drop_list {α : Type} (l : List α) (k : Nat) (h : k < l.length) : ∃ x, l[k]? = some x ∧ l.drop k = x :: l.drop (k + 1) := ⟨l[k], List.getElem?_eq_getElem h, List.drop_eq_getElem_cons h⟩
theorem map_get {α β : Type} (f : α → β) (l : List α) (k : Nat) (x : α) (h : l[k]? = some x) : (l.map f)[k]? = some (f x) := by simp [h]

theorem law_same (A1 : Option Addr) (n1 c1 : Nat) (l1 : Bs) (A2 : Option Addr) (n2 c2 : Nat) (l2 : Bs) (w : World) (h1 : Rd w w.heap.size 1 A1 n1 (l1.map bv)) (h2 : Rd w w.heap.size 1 A2 n2 (l2.map bv)) (hn : n1 ≤ maxLen) :
    Calls Tryd.prog 32 #[.slice A1 n1 c1, .slice A2 n2 c2] w fun e w' => e = .returned (.bool (decide (l1 = l2))) ∧ Below w.heap.size w w' := by
  unfold maxLen at hn
  have e1 : l1.length = n1 := by have := h1.1; simpa using this
  have e2 : l2.length = n2 := by have := h2.1; simpa using this
  go_enter Tryd.func32, Tryd.ntmps32
  go_wp2
  · go_ret
    have hq := neT ‹((n1 : Int) != n2) = true›
    exact ⟨retB (by rw [eq_comm, decide_eq_false_iff_not]; intro h; subst h; omega), Below.refl _ _⟩
  · have hq := neF ‹((n1 : Int) != n2) = false›
    have hq : n1 = n2 := by omega
    by_cases hz : n1 = 0
    · have z1 : l1 = [] := List.eq_nil_of_length_eq_zero (by omega)
      have z2 : l2 = [] := List.eq_nil_of_length_eq_zero (by omega)
      go_loopw [5] (fun i wr => i = .int .i64 0 ∧ Below w.heap.size w wr) (fun i _ => 0)
      case atStart => exact ⟨rfl, Below.refl _ _⟩
      case round =>
        obtain ⟨rfl, hb⟩ := hrel
        go_wp2
        go_ret
        exact ⟨retB (by rw [z1, z2]; rfl), hb⟩
    · obtain ⟨b1, o1, rfl, hb1, hx1⟩ := h1.2 (by omega)
      obtain ⟨b2, o2, rfl, hb2, hx2⟩ := h2.2 (by omega)
      clear h1 h2
      go_loopw [5] (fun i wr => ∃ k q : Nat, k ≤ n1 ∧ i = .int .i64 k ∧ Hid ((l1 = l2) = (l1.drop k = l2.drop k)) ∧ wr = w.drewN q) (fun i _ => n1 - (intOf i).toNat)
      case atStart => exact ⟨0, 0, Nat.zero_le _, rfl, rfl, rfl⟩
      case round =>
        obtain ⟨k, q, hk, rfl, H, rfl⟩ := hrel
        by_cases hlt : k < n1
        · obtain ⟨x, hx, hdx⟩ := drop_list l1 k (by omega)
          obtain ⟨y, hy, hdy⟩ := drop_list l2 k (by omega)
          have Hx := Lib.hid hdx; clear hdx
          have Hy := Lib.hid hdy; clear hdy
          have cx := hx1 k (bv x) (map_get bv _ _ _ hx)
          have cy := hx2 k (bv y) (map_get bv _ _ _ hy)
          go_wp2
          go_quiet (fail)
          go_wp2
          · go_ret
            refine ⟨retB ?_, below_drewN' (below_drewN' (Below.refl _ _) _) _⟩
            have ht : ¬ x = y := by rintro rfl; simp_all
            rw [eq_comm, decide_eq_false_iff_not, H.out, Hx.out, Hy.out]
            simp [ht]
          · go_roundw
            case rel => exact ⟨k + 1, q + nq, by omega, by go_num, by rw [H.out, Hx.out, Hy.out]; have ht : x = y := (by apply UInt8.toNat_inj.1; simp_all; try omega); simp only [ht, true_and, List.cons.injEq]; exact Lib.hid trivial, by simp [World.drewN]⟩
            case measure => simp [intOf]; omega
        · go_wp2
          go_ret
          refine ⟨retB ?_, below_drewN' (Below.refl _ _) _⟩
          rw [eq_comm, decide_eq_true_eq, H.out, List.drop_of_length_le (by omega), List.drop_of_length_le (by omega)]

theorem fd_u : Tryd.prog.underlying 34 = some (.struct (Tryd.prog.fieldsOf 34)) := by kernel_rfl
theorem fd_p : Tryd.prog.stoodInHeld 34 = false := by kernel_rfl
theorem fd_g : Tryd.prog.eqGuardType Tryd.prog.depth 34 = false := by kernel_rfl
theorem fd_f : (Tryd.prog.fieldsOf 34).toList.map (fun f => (f.name, f.type, f.offset)) = [("Name", 9, 0), ("Value", 9, 1)] := by kernel_rfl
theorem fd_ff : ∃ f g, (Tryd.prog.fieldsOf 34).toList = [f, g] ∧ f.type = 9 ∧ f.offset = 0 ∧ f.name = "Name" ∧ g.type = 9 ∧ g.offset = 1 ∧ g.name = "Value" := by
  have h := fd_f
  generalize (Tryd.prog.fieldsOf 34).toList = l at h
  rcases l with _ | ⟨f, _ | ⟨g, _ | ⟨x, l⟩⟩⟩
  · simp at h
  · simp at h
  · simp at h; exact ⟨f, g, rfl, h.1.2.1, h.1.2.2, h.1.1, h.2.2.1, h.2.2.2, h.2.1⟩
  · simp at h
def fdEq (a b c d : Bs) : Bool := decide ((a, b) = (c, d))
theorem run_neq_fd (a b c d : Bs) (w : World) : (binOp .neq 34 (.agg #[sv a, sv b]) (.agg #[sv c, sv d])).run Tryd.prog w = .ok (.bool (!fdEq a b c d)) w := by
  obtain ⟨f, g, hl, h1, h2, h3, h4, h5, h6⟩ := fd_ff
  rw [run_neq_struct, show (10000 : Nat) = 9999 + 1 from rfl, run_equalIn_agg w 9999 _ _ _ fd_u fd_p, hl]
  simp [Op.eqFields, h1, h2, h3, h4, h5, h6, go_sem, sv]
  by_cases e1 : a = c <;> by_cases e2 : b = d <;> simp [e1, e2, fdEq]
theorem run_guard_fd (op : BinOp) (x y : Operand) (xs ys : Array Value) (w : World) : (eqGuard op 34 x y (.agg xs) (.agg ys)).run Tryd.prog w = .ok () w := run_eqGuard_agg w op _ x y xs ys fd_g

theorem fcells_at : ∀ (l : List Fd) (k : Nat) (f : Fd), l[k]? = some f → (fcells l)[k * 2]? = some (sv f.1) ∧ (fcells l)[k * 2 + 1]? = some (sv f.2)
  | [], k, f, h => by simp at h
  | g :: l, 0, f, h => by
    obtain rfl : g = f := by simpa using h
    simp [fcells]
  | g :: l, k + 1, f, h => by
    have := fcells_at l k f (by simpa using h)
    have e : (k + 1) * 2 = k * 2 + 1 + 1 := by omega
    simpa [fcells, e] using this
theorem law_fields (A1 : Option Addr) (n1 c1 : Nat) (l1 : List Fd) (A2 : Option Addr) (n2 c2 : Nat) (l2 : List Fd) (w : World) (h1 : Rd w w.heap.size 2 A1 n1 (fcells l1)) (h2 : Rd w w.heap.size 2 A2 n2 (fcells l2)) (hn : n1 ≤ maxLen) :
    Calls Tryd.prog 31 #[.slice A1 n1 c1, .slice A2 n2 c2] w fun e w' => e = .returned (.bool (decide (l1 = l2))) ∧ Below w.heap.size w w' := by
  unfold maxLen at hn
  have e1 : l1.length = n1 := by have := h1.1; rw [fcells_len] at this; omega
  have e2 : l2.length = n2 := by have := h2.1; rw [fcells_len] at this; omega
  go_enter Tryd.func31, Tryd.ntmps31
  go_wp2
  · go_ret
    have hq := neT ‹((n1 : Int) != n2) = true›
    exact ⟨retB (by rw [eq_comm, decide_eq_false_iff_not]; intro h; subst h; omega), Below.refl _ _⟩
  · have hq := neF ‹((n1 : Int) != n2) = false›
    have hq : n1 = n2 := by omega
    by_cases hz : n1 = 0
    · have z1 : l1 = [] := List.eq_nil_of_length_eq_zero (by omega)
      have z2 : l2 = [] := List.eq_nil_of_length_eq_zero (by omega)
      go_loopw [5] (fun i wr => i = .int .i64 0 ∧ Below w.heap.size w wr) (fun i _ => 0)
      case atStart => exact ⟨rfl, Below.refl _ _⟩
      case round =>
        obtain ⟨rfl, hb⟩ := hrel
        go_wp2
        go_ret
        exact ⟨retB (by rw [z1, z2]; rfl), hb⟩
    · obtain ⟨b1, o1, rfl, hb1, hx1⟩ := h1.2 (by omega)
      obtain ⟨b2, o2, rfl, hb2, hx2⟩ := h2.2 (by omega)
      clear h1 h2
      go_loopw [5] (fun i wr => ∃ k q : Nat, k ≤ n1 ∧ i = .int .i64 k ∧ Hid ((l1 = l2) = (l1.drop k = l2.drop k)) ∧ wr = w.drewN q) (fun i _ => n1 - (intOf i).toNat)
      case atStart => exact ⟨0, 0, Nat.zero_le _, rfl, rfl, rfl⟩
      case round =>
        obtain ⟨k, q, hk, rfl, H, rfl⟩ := hrel
        by_cases hlt : k < n1
        · obtain ⟨x, hx, hdx⟩ := drop_list l1 k (by omega)
          obtain ⟨y, hy, hdy⟩ := drop_list l2 k (by omega)
          have Hx := Lib.hid hdx; clear hdx
          have Hy := Lib.hid hdy; clear hdy
          obtain ⟨cx0, cx1⟩ := fcells_at _ _ _ hx; have cx := hx1 (k * 2) _ cx0; have cx' := hx1 (k * 2 + 1) _ cx1; rw [← Nat.add_assoc] at cx'
          obtain ⟨cy0, cy1⟩ := fcells_at _ _ _ hy; have cy := hx2 (k * 2) _ cy0; have cy' := hx2 (k * 2 + 1) _ cy1; rw [← Nat.add_assoc] at cy'
          have kn := fun w : World => run_neq_fd x.1 x.2 y.1 y.2 w
          have kg := fun (o : Operand) (o' : Operand) (w : World) => run_guard_fd .neq o o' #[sv x.1, sv x.2] #[sv y.1, sv y.2] w
          go_wp2
          go_quiet (fail)
          go_wp2
          · go_ret
            refine ⟨retB ?_, below_drewN' (below_drewN' (Below.refl _ _) _) _⟩
            have ht : ¬ x = y := by rintro rfl; have := notT ‹(!fdEq x.1 x.2 x.1 x.2) = true›; simp [fdEq] at this
            rw [eq_comm, decide_eq_false_iff_not, H.out, Hx.out, Hy.out]
            simp [ht]
          · go_roundw
            case rel => exact ⟨k + 1, q + nq, by omega, by go_num, by rw [H.out, Hx.out, Hy.out]; have ht : x = y := (by have := notF ‹(!fdEq x.1 x.2 y.1 y.2) = false›; simpa [fdEq, Prod.ext_iff] using this); simp only [ht, true_and, List.cons.injEq]; exact Lib.hid trivial, by simp [World.drewN]⟩
            case measure => simp [intOf]; omega
        · go_wp2
          go_ret
          refine ⟨retB ?_, below_drewN' (Below.refl _ _) _⟩
          rw [eq_comm, decide_eq_true_eq, H.out, List.drop_of_length_le (by omega), List.drop_of_length_le (by omega)]

theorem Rd.newM (w : World) (g : Nat) (hg : g = w.heap.size) (cs : List Value) (t : TypeId) (fr : Nat × Nat) (n size : Nat) (h : cs.length = n * size) : Rd (w.alloc (.cells cs.toArray t fr)) (g + 1) size (some ⟨g, 0, none⟩) n cs :=
  ⟨h, fun _ => ⟨g, 0, rfl, by omega, fun j u hu => by rw [Nat.zero_add, Go.Joins.cell_alloc_mark_at w _ t fr g j hg]; simpa using hu⟩⟩
theorem digs_404 : digs 10 404 = [52, 48, 52] := by
  rw [digs_step 10 404 (by decide), if_neg (by decide), digs_step 10 40 (by decide), if_neg (by decide), digs_step 10 4 (by decide), if_pos (by decide)]
  rfl
theorem canned_404 : cannedB 404 = [52, 48, 52, 32, 78, 111, 116, 32, 70, 111, 117, 110, 100, 10] := by
  have h : noBody 404 = false := by decide
  rw [cannedB, h, if_neg (by decide), show (404 : Int).toNat = 404 from rfl, digs_404]
  simp [phraseL]
theorem law_known (w : World) (ht : Tab10 w) :
    Calls Tryd.prog 28 #[] w fun e w' => e = .returned (.bool true) ∧ Below w.heap.size w w' := by
  have kc := fun (w : World) (C : Array Value) (n c g : Nat) (hg : g = w.heap.size) => Go.Joins.run_convert_bytes_const_at (P := Tryd.prog) w 22 5 C n c g hg Tryd.underlying22 Tryd.underlying5
  go_enter Tryd.func28, Tryd.ntmps28
  go_wp2_with fail
  refine (sta_Canned 404 none 0 0 [] w (Rd.nil _ _ _ _) (by decide) (by decide) ht (by decide)).mono ?_
  rintro e w1 ⟨v, rfl, ⟨A1, n1, c1, A2, n2, c2, rfl, hf, hb, hc1, hc2⟩, L1⟩
  have hbl : n2 = (cannedB 404).length := by have := hb.1; simp at this; omega
  have hbn : n2 ≤ maxLen := by rw [hbl, canned_404]; decide
  clear hbl
  go_wp2_with (first
    | (go_at_call 32
       refine (law_same A2 n2 c2 (cannedB 404) _ 14 14 [52, 48, 52, 32, 78, 111, 116, 32, 70, 111, 117, 110, 100, 10] _ (((hb.alloc (Nat.le_refl _) _).alloc (by simp) _).more (by simp; omega)) ((Rd.newM _ _ (by simp) [.int .u8 52, .int .u8 48, .int .u8 52, .int .u8 32, .int .u8 78, .int .u8 111, .int .u8 116, .int .u8 32, .int .u8 70, .int .u8 111, .int .u8 117, .int .u8 110, .int .u8 100, .int .u8 10] _ _ _ _ rfl).more (by simp)) hbn).mono ?_
       rintro e w2 ⟨rfl, L2⟩
       have L2' := stepW (allocW (allocW L1 _) _) L2)
    | (go_at_call 24; refine (sta_Phrase 299 _).mono ?_; rintro e w3 ⟨rfl, rfl⟩)
    | (go_at_call 26; refine (sta_NoBody 204 _).mono ?_; rintro e w3 ⟨rfl, rfl⟩))
  all_goals go_ret
  all_goals exact ⟨rfl, by assumption⟩

theorem law_Says (c : Int) (w : World) (ht : Tab10 w) :
    Calls Tryd.prog 4 #[.int .i64 c] w fun e w' => e = .returned (.bool true) ∧ Below w.heap.size w w' := by
  go_enter Tryd.func4, Tryd.ntmps4
  go_wp2_with (first
    | (go_at_call 24; refine (sta_Phrase c _).mono ?_; rintro e w3 ⟨rfl, rfl⟩)
    | (go_at_call 25; refine (ref_Phrase c _).mono ?_; rintro e w3 ⟨rfl, rfl⟩)
    | (go_at_call 26; refine (sta_NoBody c _).mono ?_; rintro e w3 ⟨rfl, rfl⟩)
    | (go_at_call 27; refine (ref_NoBody c _).mono ?_; rintro e w3 ⟨rfl, rfl⟩)
    | (go_at_call 28; refine (law_known _ ht).mono ?_; rintro e w3 ⟨rfl, L⟩))
  all_goals go_ret
  all_goals exact ⟨rfl, by assumption⟩

theorem law_All (c : Int) (w : World) (ht : Tab10 w) :
    Calls Tryd.prog 5 #[.int .i64 c] w fun e w' => e = .returned (.bool true) ∧ Below w.heap.size w w' := by
  go_enter Tryd.func5, Tryd.ntmps5
  go_wp2
  go_loop [3] (fun i => ∃ k : Nat, k ≤ 1000 ∧ i = .int .i64 k) (fun i => 1000 - (intOf i).toNat)
  case atStart => exact ⟨0, Nat.zero_le _, rfl⟩
  case round =>
    obtain ⟨k, hk, rfl⟩ := hrel
    by_cases hlt : k < 1000
    · go_wp2_with (first
        | (go_at_call 24; refine (sta_Phrase _ _).mono ?_; rintro e w3 ⟨rfl, rfl⟩)
        | (go_at_call 25; refine (ref_Phrase _ _).mono ?_; rintro e w3 ⟨rfl, rfl⟩)
        | (go_at_call 26; refine (sta_NoBody _ _).mono ?_; rintro e w3 ⟨rfl, rfl⟩)
        | (go_at_call 27; refine (ref_NoBody _ _).mono ?_; rintro e w3 ⟨rfl, rfl⟩))
      go_round
      case rel => exact ⟨k + 1, by omega, by go_num⟩
      case measure => simp [intOf]; omega
    · go_wp2_with (go_at_call 28; refine (law_known _ ht).mono ?_; rintro e w3 ⟨rfl, L⟩)
      all_goals go_ret
      all_goals exact ⟨rfl, by assumption⟩
end Go.Proofs.YteikfilflgfhnaaDoor
