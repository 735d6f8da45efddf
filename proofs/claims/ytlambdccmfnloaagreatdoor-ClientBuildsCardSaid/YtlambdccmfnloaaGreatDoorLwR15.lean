/- usherlaw15: request, of two that are one; stood; known. -/
import Derived.Test.YtlambdccmfnloaaGreatDoorLw15
import Derived.Test.YtlambdccmfnloaaGreatDoorTEq
import Derived.Test.YtlambdccmfnloaaGreatDoorRPar
import Derived.Laws.StructEq
import Derived.Lib.SlBytesConst
namespace Go.Proofs.YtlambdccmfnloaaGreatDoor
open Go.RowKit
set_option maxRecDepth 100000
set_option maxHeartbeats 4000000

/-- A request in memory, as it can be read. -/
structure RQR (w : World) (r : RQ) (AF : Option Addr) (AB : Option Addr) : Prop where
  f : Rd w w.heap.size 2 AF r.f.length (fcells r.f)
  b : Rd w w.heap.size 1 AB r.b.length (r.b.map bv)
theorem RQR.belowW {w w' : World} {r : RQ} {AF AB : Option Addr} (h : RQR w r AF AB) (L : Below w.heap.size w w') : RQR w' r AF AB :=
  ⟨(h.f.belowW (Nat.le_refl _) L).more L.size, (h.b.belowW (Nat.le_refl _) L).more L.size⟩
def rqV (r : RQ) (AF : Option Addr) (cF : Nat) (AB : Option Addr) (cB : Nat) : Value := reqV r.m r.t r.v (.slice AF r.f.length cF) (.slice AB r.b.length cB) r.c r.e
theorem PR.belowW {w w' : World} {g : Nat} {S : Nat → Prop} {p : PS} (h : PR w g S p) (L : Below w.heap.size w w') : PR w' g S p := by
  obtain ⟨x, e, k⟩ := h
  exact ⟨x, e, k.belowW L⟩
theorem PR.lt {w : World} {g : Nat} {S : Nat → Prop} {p : PS} (h : PR w g S p) {k : Nat} (hk : S k) : k < w.heap.size := by
  obtain ⟨x, rfl, q⟩ := h
  exact q.lt hk
theorem PR.fr {w w' : World} {g : Nat} {S T : Nat → Prop} {p : PS} (h : PR w g S p) (hf : Fr T w w') (hs : ∀ k, S k → ¬ T k) : PR w' g S p := by
  obtain ⟨x, rfl, q⟩ := h
  exact ⟨x, rfl, q.fr hf hs⟩
/-- Feed, by the parser's blocks. -/
def FeedP (w : World) (g : Nat) (S : Nat → Prop) (q : Nat × PS) (e : Ending) (w' : World) : Prop :=
  e = .returned (.int .i64 (q.1 : Int)) ∧ PInv q.2 ∧ ∃ S', PR w' g S' q.2 ∧ Moved S S' w w'
theorem prs_FeedP (g : Nat) (S : Nat → Prop) (p : PS) (A : Option Addr) (n cp : Nat) (ps : List Bs) (w : World) (q : PR w g S p) (hi : PInv p) (hA : RdP w S A n ps) (hn : ps.flatten.length ≤ 1000000) (hf : p.fed ≤ 900000000) (hm : ML w) (hh : Hi S) (hnl : n ≤ 1000000) :
    Calls Tryz.prog 18 #[.pointer (some ⟨g, 0, none⟩), .slice A n cp] w (FeedP w g S (pFeed p ps.flatten)) := by
  obtain ⟨x, rfl, q⟩ := q
  refine (prs_Feed g p x A n cp ps w q hi hA hn hf hm hh hnl).mono ?_
  rintro e w' ⟨rfl, hi', x', k', m'⟩
  exact ⟨rfl, hi', _, ⟨x', rfl, k'⟩, m'⟩
theorem RdO.lit {w : World} {S : Nat → Prop} (hS : ∀ k, S k → k < w.heap.size) (g : Nat) (hg : g = w.heap.size) (l : List Value) (t : TypeId) (fr : Nat × Nat) (n : Nat) (hn : l.length = n) : RdO (w.alloc (.cells l.toArray t fr)) S (some ⟨g, 0, none⟩) n l := by
  subst hg
  exact ⟨(Rd.newM w _ rfl l t fr n 1 (by omega)).more (by simp), fun _ a ha hs => by injection ha with ha; subst ha; exact Nat.lt_irrefl _ (hS _ hs)⟩
theorem RdP.two {w : World} {S : Nat → Prop} (hS : ∀ k, S k → k < w.heap.size) (g : Nat) (hg : g = w.heap.size) (t : TypeId) (p1 p2 : Bs) {A1 A2 : Option Addr} {n1 n2 c1 c2 : Nat} (e1 : p1.length = n1) (e2 : p2.length = n2) (h1 : RdO w S A1 n1 (p1.map bv)) (h2 : RdO w S A2 n2 (p2.map bv)) (l1 : n1 ≤ c1) (l2 : n2 ≤ c2) :
    RdP (w.alloc (.cells #[.slice A1 n1 c1, .slice A2 n2 c2] t)) S (some ⟨g, 0, none⟩) 2 [p1, p2] := by
  subst e1 e2
  refine ⟨[.slice A1 p1.length c1, .slice A2 p2.length c2], RdO.lit hS g hg _ t (0, 0) 2 rfl, rfl, fun i p hp => ?_⟩
  match i, hp with
  | 0, hp =>
    obtain rfl : p1 = p := by simpa using hp
    exact ⟨A1, c1, rfl, l1, h1.belowW (allocW (Below.refl _ _) _)⟩
  | 1, hp =>
    obtain rfl : p2 = p := by simpa using hp
    exact ⟨A2, c2, rfl, l2, h2.belowW (allocW (Below.refl _ _) _)⟩
theorem RdP.one {w : World} {S : Nat → Prop} (hS : ∀ k, S k → k < w.heap.size) (g : Nat) (hg : g = w.heap.size) (t : TypeId) (p1 : Bs) {A1 : Option Addr} {n1 c1 : Nat} (e1 : p1.length = n1) (h1 : RdO w S A1 n1 (p1.map bv)) (l1 : n1 ≤ c1) :
    RdP (w.alloc (.cells #[.slice A1 n1 c1] t)) S (some ⟨g, 0, none⟩) 1 [p1] := by
  subst e1
  refine ⟨[.slice A1 p1.length c1], RdO.lit hS g hg _ t (0, 0) 1 rfl, rfl, fun i p hp => ?_⟩
  match i, hp with
  | 0, hp =>
    obtain rfl : p1 = p := by simpa using hp
    exact ⟨A1, c1, rfl, l1, h1.belowW (allocW (Below.refl _ _) _)⟩
def kq1 : Bs := [71, 69, 84, 32, 47, 32, 72, 84, 84, 80, 47, 49, 46, 48, 13, 10]
def kq2 : Bs := [13, 10, 71, 69, 84]
theorem kq_feed : (pFeed p0 [kq1, kq2].flatten).1 = 18 ∧ (pFeed p0 [kq1, kq2].flatten).2.phase = 3 ∧ (pFeed p0 [kq1, kq2].flatten).2.head.how.close = true ∧ (pFeed p0 [kq1, kq2].flatten).2.head.minor = 0 ∧ (pFeed p0 [kq1, kq2].flatten).2.head.tgt.path = [47] := by decide +kernel
end Go.Proofs.YtlambdccmfnloaaGreatDoor
