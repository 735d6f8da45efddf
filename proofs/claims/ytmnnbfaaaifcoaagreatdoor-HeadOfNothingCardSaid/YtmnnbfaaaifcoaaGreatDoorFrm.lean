/- framing: must, tokens, coded, length, the deferred function. -/
import Derived.Test.YtmnnbfaaaifcoaaGreatDoorFld3
import Derived.Test.YtmnnbfaaaifcoaaGreatDoorTok
import Derived.Defers
import Derived.Recover
import Derived.WalkLawsBesides
namespace Go.Proofs.YtmnnbfaaaifcoaaGreatDoor
open Go.RowKit
set_option maxRecDepth 100000
set_option maxHeartbeats 2000000

def refusal (s : Int) : List PanicEntry := [{ v := .iface 121 (.agg #[.int .i64 s]), recovered := false }]
theorem frm_must1 (s : Int) (w : World) :
    Calls Tryz.prog 75 #[.bool true, .int .i64 s] w fun e w' => e = .returned (.tuple #[]) ∧ w = w' := by
  go_enter Tryz.func75, Tryz.ntmps75
  go_wp2
  go_end0
  exact ⟨rfl, rfl⟩
theorem frm_must0 (s : Int) (w : World) :
    Calls Tryz.prog 75 #[.bool false, .int .i64 s] w fun e w' => e = .panicked (refusal s) ∧ w = w' := by
  go_enter Tryz.func75, Tryz.ntmps75
  go_wp2
  exact ⟨rfl, rfl, rfl⟩
theorem frm_catch (h s : Nat) (hhs : h ≠ s) (x y : Int) (older : List PanicEntry) (w : World) (k : How) (B1 : Blk w h 30 #[.int .i64 k.kind, .int .i64 k.len, .bool k.close, .bool k.expect]) (B2 : Blk w s 3 #[.int .i64 y]) :
    CallsD Tryz.prog 73 #[.pointer (some ⟨h, 0, none⟩), .pointer (some ⟨s, 0, none⟩)] (.panicking ({ v := .iface 121 (.agg #[.int .i64 x]), recovered := false } :: older)) w fun e u' w' =>
      e = .returned (.tuple #[]) ∧ u' = .panicking ({ v := .iface 121 (.agg #[.int .i64 x]), recovered := true } :: older) ∧ Blk w' h 30 #[.int .i64 0, .int .i64 0, .bool false, .bool false] ∧ Blk w' s 3 #[.int .i64 x] ∧ Fr (fun i => i = h ∨ i = s) w w' := by
  have ha : ∀ (v : Value) (w : World), (Instr.typeAssert (.iface 121 v) 20 121 true).run Tryz.prog w = .ok (.tuple #[v, .bool true]) w := fun _ _ => by kernel_rfl
  have hq : ∀ (v : Value) (w : World), (binOp .eql 20 (.iface 121 v) .nilIface).run Tryz.prog w = .ok (.bool false) w := fun _ _ => by kernel_rfl
  obtain ⟨j0, j1, j2, j3, i0, i1, i2, i3⟩ := B1.c4
  obtain ⟨k0, g0⟩ := B2.c1
  refine callsD_of_wpS Tryz.func73 rfl fun c₀ cs hu => ?_
  apply wpS_seq
  apply wpS_region
  simp [wpOpsS, go_sem, recoverD, hu, Tryz.ntmps73, Exit.thenS]
  refine wpS_of_wp ?_
  go_wp2
  clear j0 j1 j2 j3 i0 i1 i2 i3 k0 g0 ha hq
  have LV : Below w.heap.size w (w.alloc (.cells #[.int .i64 x] 121)) := allocW (Below.refl _ _) _
  have BV : Blk (w.alloc (.cells #[.int .i64 x] 121)) w.heap.size 121 #[.int .i64 x] := Blk.new' _ _ rfl _ _
  obtain ⟨V, hV⟩ : ∃ V, V = w.alloc (.cells #[.int .i64 x] 121) := ⟨_, rfl⟩
  rw [← hV] at LV BV ⊢
  have C1 := B1.belowW LV
  have C2 := B2.belowW LV
  have hh := B1.lt
  have hs := B2.lt
  have h1 : ¬ h = s := hhs
  have h2 : ¬ h = w.heap.size := by omega
  have h3 : ¬ s = w.heap.size := by omega
  have h4 : ¬ s = h := fun e => hhs e.symm
  clear hV
  obtain ⟨j0, j1, j2, j3, i0, i1, i2, i3⟩ := C1.c4
  obtain ⟨k0, g0⟩ := C2.c1
  obtain ⟨m0, n0⟩ := BV.c1
  clear B1 B2
  have D1 : Blk (((((V.setCell ⟨h, 0, none⟩ (.int .i64 0)).setCell ⟨h, 1, none⟩ (.int .i64 0)).setCell ⟨h, 2, none⟩ (.bool false)).setCell ⟨h, 3, none⟩ (.bool false)).setCell ⟨s, 0, none⟩ (.int .i64 x)).drew h 30 #[.int .i64 0, .int .i64 0, .bool false, .bool false] :=
    ((((C1.set_ 0 (.int .i64 0)).set_ 1 (.int .i64 0)).set_ 2 (.bool false)).set_ 3 (.bool false)).far (p := ⟨s, 0, none⟩) hhs (.int .i64 x)
  have D2 : Blk (((((V.setCell ⟨h, 0, none⟩ (.int .i64 0)).setCell ⟨h, 1, none⟩ (.int .i64 0)).setCell ⟨h, 2, none⟩ (.bool false)).setCell ⟨h, 3, none⟩ (.bool false)).setCell ⟨s, 0, none⟩ (.int .i64 x)).drew s 3 #[.int .i64 x] :=
    ((((C2.far (p := ⟨h, 0, none⟩) h4 (.int .i64 0)).far (p := ⟨h, 1, none⟩) h4 (.int .i64 0)).far (p := ⟨h, 2, none⟩) h4 (.bool false)).far (p := ⟨h, 3, none⟩) h4 (.bool false)).set_ 0 (.int .i64 x)
  have D3 : Fr (fun i => i = h ∨ i = s) w (((((V.setCell ⟨h, 0, none⟩ (.int .i64 0)).setCell ⟨h, 1, none⟩ (.int .i64 0)).setCell ⟨h, 2, none⟩ (.bool false)).setCell ⟨h, 3, none⟩ (.bool false)).setCell ⟨s, 0, none⟩ (.int .i64 x)).drew :=
    (((((((Fr.ofBelow LV).mono fun i hi => .inr hi).setCell (p := ⟨h, 0, none⟩) (.inl (.inl rfl)) _).setCell (p := ⟨h, 1, none⟩) (.inl (.inl rfl)) _).setCell (p := ⟨h, 2, none⟩) (.inl (.inl rfl)) _).setCell (p := ⟨h, 3, none⟩) (.inl (.inl rfl)) _).setCell (p := ⟨s, 0, none⟩) (.inl (.inr rfl)) _).drew
  go_region
  all_goals
    go_wp2
    simp [bodyPostS, results, Tryz.results73]
    exact ⟨D1, D2, D3⟩
theorem frm_idle (p q : Value) (w : World) :
    CallsD Tryz.prog 73 #[p, q] .returning w fun e u' w' => e = .returned (.tuple #[]) ∧ u' = .returning ∧ w = w' := by
  have hq : ∀ (w : World), (binOp .eql 20 .nilIface .nilIface).run Tryz.prog w = .ok (.bool true) w := fun _ => by kernel_rfl
  refine callsD_of_wpS Tryz.func73 rfl fun c₀ cs hu => ?_
  apply wpS_seq
  apply wpS_region
  simp [wpOpsS, go_sem, recoverD, hu, Tryz.ntmps73, Exit.thenS]
  refine wpS_of_wp ?_
  go_wp2
  cases c₀
  simp_all [bodyPostS, results, Tryz.results73]
end Go.Proofs.YtmnnbfaaaifcoaaGreatDoor
