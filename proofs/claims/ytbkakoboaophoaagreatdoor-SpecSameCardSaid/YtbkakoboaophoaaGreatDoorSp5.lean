/- usherlaw16: requests, known; '==' of two rests. -/
import Derived.Test.YtbkakoboaophoaaGreatDoorSp2
import Derived.Test.YtbkakoboaophoaaGreatDoorSp3
import Derived.Lib.SlBytesConst
namespace Go.Proofs.YtbkakoboaophoaaGreatDoor
open Go.RowKit
set_option maxRecDepth 100000
set_option maxHeartbeats 4000000

theorem rst_u : Tryz.prog.underlying 42 = some (.struct (Tryz.prog.fieldsOf 42)) := by kernel_rfl
theorem rst_p : Tryz.prog.stoodInHeld 42 = false := by kernel_rfl
theorem rst_g : Tryz.prog.eqGuardType Tryz.prog.depth 42 = false := by kernel_rfl
theorem rst_f : (Tryz.prog.fieldsOf 42).toList.map (fun f => (f.name, f.type, f.offset)) = [("Used", 3, 0), ("Phase", 3, 1), ("Status", 3, 2)] := by kernel_rfl
theorem rst_ff : ∃ f g h, (Tryz.prog.fieldsOf 42).toList = [f, g, h] ∧ (f.type = 3 ∧ f.offset = 0 ∧ f.name = "Used") ∧ (g.type = 3 ∧ g.offset = 1 ∧ g.name = "Phase") ∧ (h.type = 3 ∧ h.offset = 2 ∧ h.name = "Status") := by
  have h := rst_f
  generalize (Tryz.prog.fieldsOf 42).toList = l at h
  rcases l with _ | ⟨f, _ | ⟨g, _ | ⟨x, _ | ⟨z, l⟩⟩⟩⟩
  all_goals simp at h
  exact ⟨f, g, x, rfl, ⟨h.1.2.1, h.1.2.2, h.1.1⟩, ⟨h.2.1.2.1, h.2.1.2.2, h.2.1.1⟩, ⟨h.2.2.2.1, h.2.2.2.2, h.2.2.1⟩⟩
theorem run_eql_rs (a b c : Int) (w : World) : (binOp .eql 42 (.agg #[.int .i64 a, .int .i64 b, .int .i64 c]) (.agg #[.int .i64 a, .int .i64 b, .int .i64 c])).run Tryz.prog w = .ok (.bool true) w := by
  obtain ⟨f, g, h, hl, ⟨h1, h2, h3⟩, ⟨h4, h5, h6⟩, ⟨h7, h8, h9⟩⟩ := rst_ff
  rw [run_eql_struct, show (10000 : Nat) = 9999 + 1 from rfl, run_equalIn_agg w 9999 _ _ _ rst_u rst_p, hl]
  simp [Op.eqFields, h1, h2, h3, h4, h5, h6, h7, h8, h9, go_sem]
theorem run_guard_rs (op : BinOp) (x y : Operand) (xs ys : Array Value) (w : World) : (eqGuard op 42 x y (.agg xs) (.agg ys)).run Tryz.prog w = .ok () w := run_eqGuard_agg w op _ x y xs ys rst_g

/-- A request in ten cells. -/
abbrev RC (b o : Nat) (x : RP) (w : World) : Prop :=
  w.cell? ⟨b, o, none⟩ = some (sv x.r.m) ∧ w.cell? ⟨b, o + 1, none⟩ = some (.int .i64 x.r.t.form) ∧ w.cell? ⟨b, o + 2, none⟩ = some (sv x.r.t.host) ∧ w.cell? ⟨b, o + 3, none⟩ = some (sv x.r.t.path) ∧ w.cell? ⟨b, o + 4, none⟩ = some (sv x.r.t.query) ∧ w.cell? ⟨b, o + 5, none⟩ = some (.int .i64 x.r.v) ∧ w.cell? ⟨b, o + 6, none⟩ = some (.slice x.af x.r.f.length x.cf) ∧ w.cell? ⟨b, o + 7, none⟩ = some (.slice x.ab x.r.b.length x.cb) ∧ w.cell? ⟨b, o + 8, none⟩ = some (.bool x.r.c) ∧ w.cell? ⟨b, o + 9, none⟩ = some (.bool x.r.e)
theorem RC.belowW {b o : Nat} {x : RP} {w w' : World} (h : RC b o x w) (L : Below w.heap.size w w') (hb : b < w.heap.size) : RC b o x w' :=
  ⟨(L.cell (p := ⟨b, o, none⟩) hb).trans h.1, (L.cell (p := ⟨b, o + 1, none⟩) hb).trans h.2.1, (L.cell (p := ⟨b, o + 2, none⟩) hb).trans h.2.2.1, (L.cell (p := ⟨b, o + 3, none⟩) hb).trans h.2.2.2.1, (L.cell (p := ⟨b, o + 4, none⟩) hb).trans h.2.2.2.2.1, (L.cell (p := ⟨b, o + 5, none⟩) hb).trans h.2.2.2.2.2.1, (L.cell (p := ⟨b, o + 6, none⟩) hb).trans h.2.2.2.2.2.2.1, (L.cell (p := ⟨b, o + 7, none⟩) hb).trans h.2.2.2.2.2.2.2.1, (L.cell (p := ⟨b, o + 8, none⟩) hb).trans h.2.2.2.2.2.2.2.2.1, (L.cell (p := ⟨b, o + 9, none⟩) hb).trans h.2.2.2.2.2.2.2.2.2⟩
theorem map_at {l1 l2 : List RP} (he : l1.map RP.r = l2.map RP.r) {k : Nat} {x y : RP} (h1 : l1[k]? = some x) (h2 : l2[k]? = some y) : x.r = y.r := by
  have h3 : (l1.map RP.r)[k]? = some x.r := by rw [List.getElem?_map, h1]; rfl
  rw [he, List.getElem?_map, h2] at h3
  injection h3 with h3
  exact h3.symm
theorem law_requests16 (A1 : Option Addr) (n1 c1 : Nat) (l1 : List RP) (A2 : Option Addr) (n2 c2 : Nat) (l2 : List RP) (w : World) (h1 : RR w A1 n1 l1) (h2 : RR w A2 n2 l2) (he : l1.map RP.r = l2.map RP.r) (hn : n1 ≤ 100000) :
    Calls Tryz.prog 25 #[.slice A1 n1 c1, .slice A2 n2 c2] w fun e w' => e = .returned (.bool true) ∧ Below w.heap.size w w' := by
  have e1 := h1.len
  have e2 := h2.len
  have e12 : n1 = n2 := by have := congrArg List.length he; simp only [List.length_map] at this; omega
  subst e12
  go_enter Tryz.func25, Tryz.ntmps25
  go_wp2
  go_loopw [5] (fun i wr => ∃ k : Nat, k ≤ n1 ∧ i = .int .i64 k ∧ Below w.heap.size w wr) (fun i _ => n1 - (intOf i).toNat)
  case atStart => exact ⟨0, Nat.zero_le _, rfl, Below.refl _ _⟩
  case round =>
    obtain ⟨k, hk, rfl, L⟩ := hrel
    by_cases hlt : k < n1
    · obtain ⟨x, hx, -⟩ := drop_list l1 k (by omega)
      obtain ⟨y, hy, -⟩ := drop_list l2 k (by omega)
      have hxy := map_at he hx hy
      have R1 := h1.belowW L
      have R2 := h2.belowW L
      have hmx := List.mem_of_getElem? hx
      have hmy := List.mem_of_getElem? hy
      have hC : ∀ q, Calls Tryz.prog 29 #[.agg #[sv x.r.m, .int .i64 x.r.t.form, sv x.r.t.host, sv x.r.t.path, sv x.r.t.query, .int .i64 x.r.v, .slice x.af x.r.f.length x.cf, .slice x.ab x.r.b.length x.cb, .bool x.r.c, .bool x.r.e], .agg #[sv y.r.m, .int .i64 y.r.t.form, sv y.r.t.host, sv y.r.t.path, sv y.r.t.query, .int .i64 y.r.v, .slice y.af y.r.f.length y.cf, .slice y.ab y.r.b.length y.cb, .bool y.r.c, .bool y.r.e]] (wr.drewN q) fun e w' => e = .returned (.bool true) ∧ Below (wr.drewN q).heap.size (wr.drewN q) w' := by
        intro q
        have Lq := below_drewN' (Below.refl wr.heap.size wr) q
        have h9 := law_request16 x y (wr.drewN q) ((R1.rq x hmx).belowW Lq) ((R2.rq y hmy).belowW Lq) (R1.sz x hmx).1 (R1.sz x hmx).2
        rw [decide_eq_true hxy] at h9
        exact h9
      obtain ⟨b1, o1, rfl, hb1, hX⟩ := R1.at_ hx
      obtain ⟨b2, o2, rfl, hb2, hY⟩ := R2.at_ hy
      have hX : RC b1 (o1 + k * 10) x wr := hX
      have hY : RC b2 (o2 + k * 10) y wr := hY
      have hP : ∀ w', Below wr.heap.size wr w' → RC b1 (o1 + k * 10) x w' ∧ RC b2 (o2 + k * 10) y w' := fun w' hb => ⟨hX.belowW hb hb1, hY.belowW hb hb2⟩
      have hQ : ∀ q, RC b1 (o1 + k * 10) x (wr.drewN q) ∧ RC b2 (o2 + k * 10) y (wr.drewN q) := fun q => hP _ (below_drewN' (Below.refl wr.heap.size wr) q)
      have hd : RC b1 (o1 + k * 10) x wr.drew ∧ RC b2 (o2 + k * 10) y wr.drew := hP _ ((Below.refl wr.heap.size wr).drew)
      have h0 : RC b1 (o1 + k * 10) x wr ∧ RC b2 (o2 + k * 10) y wr := ⟨hX, hY⟩
      clear R1 R2 h1 h2 hx hy hxy hmx hmy
      go_wp2_with fail
      go_region_held3 (fun w' => RC b1 (o1 + k * 10) x w' ∧ RC b2 (o2 + k * 10) y w') (first | with_reducible exact h0 | with_reducible exact hQ _ | with_reducible exact hd | with_reducible exact S5 | trace_state) ((go_at_call 29; refine (hC _).mono ?_; rintro e w5 ⟨rfl, L5⟩; have S5 := hP w5 ((below_drewN' (Below.refl wr.heap.size wr) _).trans L5)))
      go_wp2_with fail
      go_roundw
      case rel => exact ⟨k + 1, by omega, by go_num, stepW L ((below_drewN' (Below.refl wr.heap.size wr) _).trans L5)⟩
      case measure => simp [intOf]; omega
    · go_wp2
      go_ret
      exact ⟨rfl, L⟩
def kr1 : Bs := [71, 69, 84, 32, 47, 32, 72, 84, 84, 80, 47, 49, 46, 48, 13, 10, 13, 10, 71, 69, 84, 32, 47, 32, 72, 84, 84, 80, 47, 49, 46, 48, 13, 10, 13, 10]
theorem kr_read : (rdL kr1).1.length = 1 ∧ (rdL kr1).2 = ⟨18, 0, 0⟩ := by decide +kernel
theorem law_known16 (w : World) (hm : ML w) :
    Calls Tryz.prog 27 #[] w fun e w' => e = .returned (.bool true) ∧ Below w.heap.size w w' := by
  have hk := run_eql_rs 18 0 0
  have hg := fun (o o' : Operand) (xs ys : Array Value) (w : World) => run_guard_rs .eql o o' xs ys w
  go_enter Tryz.func27, Tryz.ntmps27
  go_wp2_with (refine wpList_toBytes _ rfl _ 9 22 rfl 5 w.heap.size ⟨kr1.toArray⟩ rfl Tryz.underlying9 Tryz.underlying22 Tryz.underlying5 (by decide) (Nat.le_refl _) ?_; intro cap w1 hcap ho1 hg1 hz1)
  have L1 := below_of_none hg1
  have hC := spc_Read _ _ cap kr1 w1 (ho1.rdS.2.2) (by decide) hcap (hm.below L1 (Nat.le_refl _))
  obtain ⟨hl, hr⟩ := kr_read
  unfold ReadPost at hC
  rw [hr] at hC
  have HL := Lib.hid hl
  clear hl hr ho1 hg1 hz1 hcap
  refine hC.mono ?_
  rintro e w2 ⟨A2, c2, l2, rfl, hm2, -, -, -, L2⟩
  have hl2 : l2.length = 1 := by rw [← HL.out, ← hm2, List.length_map]
  rw [hl2]
  go_wp2
  go_ret
  exact ⟨rfl, allocW (stepW L1 L2) _⟩
end Go.Proofs.YtbkakoboaophoaaGreatDoor
