/- framing.Of. -/
import Derived.Test.YtmnnbfaaaifcoaaGreatDoorFrm4
namespace Go.Proofs.YtmnnbfaaaifcoaaGreatDoor
open Go.RowKit
set_option maxRecDepth 100000
set_option maxHeartbeats 4000000

abbrev howC (k : How) : Array Value := #[.int .i64 k.kind, .int .i64 k.len, .bool k.close, .bool k.expect]
theorem frm_results (tmps : Array Value) (h s : Nat) (w : World) (k : How) (y : Int) (h4 : tmps[4]? = some (.pointer (some ⟨h, 0, none⟩))) (h5 : tmps[5]? = some (.pointer (some ⟨s, 0, none⟩)))
    (B1 : Blk w h 30 (howC k)) (B2 : Blk w s 3 #[.int .i64 y]) : (results Tryz.f44 tmps).run Tryz.prog w = .ok (howR (k, y)) w := by
  obtain ⟨j0, j1, j2, j3, -, -, -, -⟩ := B1.c4
  obtain ⟨k0, -⟩ := B2.c1
  simp [results, Tryz.results44, go_sem, h4, h5, j0, j1, j2, j3, k0, howR]
def frmDef (h s : Nat) : List Deferred := [{ target := .fn (.func 73) #[.pointer (some ⟨h, 0, none⟩), .pointer (some ⟨s, 0, none⟩)], args := #[] }]
theorem door_panic (tmps : Array Value) (h s : Nat) (hhs : h ≠ s) (w : World) (k : How) (y x : Int) (R : Ending → World → Prop) (h4 : tmps[4]? = some (.pointer (some ⟨h, 0, none⟩))) (h5 : tmps[5]? = some (.pointer (some ⟨s, 0, none⟩)))
    (B1 : Blk w h 30 (howC k)) (B2 : Blk w s 3 #[.int .i64 y]) (hR : ∀ w', Fr (fun i => i = h ∨ i = s) w w' → R (.returned (howR (how0, x))) w') :
    bodyPostD Tryz.prog Tryz.f44 R (.panic (refusal x)) { tmps := tmps, defers := frmDef h s } w := by
  show Leaves _ _ tmps R (frmDef h s) (.panicking (refusal x)) w
  refine leaves_cons (f := 73) (args := #[.pointer (some ⟨h, 0, none⟩), .pointer (some ⟨s, 0, none⟩)]) (by simp) (by simp [go_sem]) ?_
  refine (frm_catch h s hhs x y [] w k B1 B2).mono ?_
  rintro e u' w' ⟨rfl, rfl, D1, D2, D3⟩
  exact ⟨_, frm_results tmps h s w' how0 x h4 h5 D1 D2, hR w' D3⟩
theorem door_ret (tmps : Array Value) (h s : Nat) (w : World) (k : How) (y : Int) (R : Ending → World → Prop) (h4 : tmps[4]? = some (.pointer (some ⟨h, 0, none⟩))) (h5 : tmps[5]? = some (.pointer (some ⟨s, 0, none⟩)))
    (B1 : Blk w h 30 (howC k)) (B2 : Blk w s 3 #[.int .i64 y]) (hR : R (.returned (howR (k, y))) w) :
    Leaves Tryz.prog Tryz.f44 tmps R (frmDef h s) .returning w := by
  refine leaves_cons (f := 73) (args := #[.pointer (some ⟨h, 0, none⟩), .pointer (some ⟨s, 0, none⟩)]) (by simp) (by simp [go_sem]) ?_
  refine (frm_idle _ _ w).mono ?_
  rintro e u' w' ⟨rfl, rfl, rfl⟩
  exact ⟨_, frm_results tmps h s w k y h4 h5 B1 B2, hR⟩
theorem door_fin (tmps : Array Value) (w wx : World) (k : How) (y x : Int) (FR : How × Int) (h4 : tmps[4]? = some (.pointer (some ⟨w.heap.size, 0, none⟩))) (h5 : tmps[5]? = some (.pointer (some ⟨w.heap.size + 1, 0, none⟩)))
    (B1 : Blk wx w.heap.size 30 (howC k)) (B2 : Blk wx (w.heap.size + 1) 3 #[.int .i64 y]) (L : Below w.heap.size w wx) (hr : FR = (how0, x)) :
    bodyPostD Tryz.prog Tryz.f44 (fun e w' => e = .returned (howR FR) ∧ Below w.heap.size w w') (.panic (refusal x)) { tmps := tmps, defers := frmDef w.heap.size (w.heap.size + 1) } wx := by
  subst hr
  refine door_panic tmps w.heap.size (w.heap.size + 1) (by omega) wx k y x _ h4 h5 B1 B2 fun w' hf => ⟨rfl, L.trans (hf.toBelow L.size ?_)⟩
  intro i hi
  omega
theorem tokP_sz (M : Nat) : ∀ (P st l : List Bs), P.foldl tokF (some st) = some l → (∀ x ∈ st, x.length ≤ M) → (∀ s ∈ P, s.length ≤ M) → ∀ x ∈ l, x.length ≤ M
  | [], st, l, h, h1, _ => by injection h with h; subst h; exact h1
  | s :: P, st, l, h, h1, h2 => by
    rw [List.foldl_cons] at h
    have hs := h2 s (by simp)
    have ht := trimL_len s
    by_cases e : trimL s = []
    · rw [tokF_skip _ _ e] at h
      exact tokP_sz M P st l h h1 (fun y hy => h2 y (by simp [hy]))
    · cases hk : tkL (trimL s)
      · rw [tokF_bad _ _ e hk, tokF_none] at h
        cases h
      · rw [tokF_one _ _ e hk] at h
        refine tokP_sz M P _ l h (fun y hy => ?_) (fun y hy => h2 y (by simp [hy]))
        rcases List.mem_append.1 hy with hy | hy
        · exact h1 y hy
        · rw [List.mem_singleton] at hy
          subst hy
          rw [lowL, List.length_map]
          omega
theorem toks_sz (vs t : List Bs) (h : toksL vs = some t) (hs : TxSz vs) : TxSz t := by
  refine tokP_sz 1000000 _ [] t h (by simp) fun s hs2 => ?_
  obtain ⟨v, hv, hv2⟩ := List.mem_flatMap.1 hs2
  exact Nat.le_trans (split_sz 44 v s hv2) (hs v hv)
theorem door_end (tmps : Array Value) (w wx : World) (k : How) (y : Int) (FR : How × Int) (h4 : tmps[4]? = some (.pointer (some ⟨w.heap.size, 0, none⟩))) (h5 : tmps[5]? = some (.pointer (some ⟨w.heap.size + 1, 0, none⟩)))
    (B1 : Blk wx w.heap.size 30 (howC k)) (B2 : Blk wx (w.heap.size + 1) 3 #[.int .i64 y]) (L : Below w.heap.size w wx) (hr : FR = (k, y)) :
    bodyPostD Tryz.prog Tryz.f44 (fun e w' => e = .returned (howR FR) ∧ Below w.heap.size w w') .ret { tmps := tmps, defers := frmDef w.heap.size (w.heap.size + 1) } wx := by
  subst hr
  exact door_ret tmps w.heap.size (w.heap.size + 1) wx k y _ h4 h5 B1 B2 ⟨rfl, L⟩
theorem low_cont : lowL contB = contB := by decide +kernel
end Go.Proofs.YtmnnbfaaaifcoaaGreatDoor
