/- reply.parts. -/
import Derived.Test.YtlambdccmfnloaaGreatDoorReF
import Derived.Test.YtlambdccmfnloaaGreatDoorRowB
namespace Go.Proofs.YtlambdccmfnloaaGreatDoor
open Go.RowKit
set_option maxRecDepth 100000
set_option maxHeartbeats 4000000

/-- Rows of bytes made. -/
def CutPost (w : World) (ps : List Bs) (e : Ending) (w' : World) : Prop :=
  ∃ A c, e = .returned (.slice A ps.length c) ∧ RdS w' w'.heap.size A ps.length ps ∧ Below w.heap.size w w'
structure CtRel (w : World) (b : Bs) (p : List Int) (a k : Nat) (v : Value) (ps : List Bs) (wr : World) : Prop where
  an : a ≤ b.length
  kz : k ≤ p.length
  ok : (prtF b.length a (p.drop k)).isSome = true
  pk : ps.length = k
  eq : cutP b 0 p = ps ++ cutP b a (p.drop k)
  own : OPs wr w.heap.size v ps
  below : Below w.heap.size w wr
theorem prt_more {n : Nat} {last a : Int} {l : List Int} (h : (prtF n last (a :: l)).isSome = true) : last < a ∧ a ≤ (n : Int) ∧ (prtF n a l).isSome = true := by
  rw [prtF] at h
  split at h
  · cases h
  · rename_i h9
    exact ⟨by omega, by omega, h⟩
theorem CtRel.next {w : World} {b : Bs} {p : List Int} {a k : Nat} {v : Value} {ps : List Bs} {wr : World} (h : CtRel w b p a k v ps wr) (hk : k < p.length) :
    ∃ z : Nat, p[k]? = some (z : Int) ∧ a < z ∧ z ≤ b.length ∧ (((b.drop a).take (z - a)).length = z - a) ∧
      ∀ (v' : Value) (wr' : World), OPs wr' w.heap.size v' (ps ++ [(b.drop a).take (z - a)]) → Ext wr wr' v v' → CtRel w b p z (k + 1) v' (ps ++ [(b.drop a).take (z - a)]) wr' := by
  obtain ⟨x, hx, hd⟩ := drop_list p k hk
  have ho := h.ok
  rw [hd] at ho
  obtain ⟨h1, h2, h3⟩ := prt_more ho
  obtain ⟨z, rfl⟩ : ∃ z : Nat, x = (z : Int) := ⟨x.toNat, by omega⟩
  refine ⟨z, hx, by omega, by omega, by rw [List.length_take, List.length_drop]; omega, fun v' wr' ho' hx' => ⟨by omega, by omega, h3, by rw [List.length_append, h.pk]; rfl, ?_, ho', h.below.trans (h.own.ext hx' h.below.size)⟩⟩
  rw [h.eq, hd, cutP, List.append_assoc, Int.toNat_natCast, Int.toNat_natCast, List.drop_take]
  rfl
theorem CtRel.rd {w : World} {b : Bs} {p : List Int} {a k : Nat} {v : Value} {ps : List Bs} {wr : World} (h : CtRel w b p a k v ps wr) {A : Option Addr} (hA : Rd w w.heap.size 1 A b.length (b.map bv)) (m : Nat) (hm : m ≤ b.length - a) :
    Rd wr wr.heap.size 1 (A.map (·.add a)) m (((b.drop a).take m).map bv) ∧ (0 < m → ∀ x, A.map (·.add a) = some x → v.ownBlock ≠ some x.block) := by
  have h1 := ((hA.cutFrom (k := a) h.an).cutTo (k := m) hm)
  rw [Nat.mul_one, Nat.mul_one, ← List.map_drop, ← List.map_take] at h1
  refine ⟨(h1.below h.below).more h.below.size, fun h0 x hx hv => ?_⟩
  obtain ⟨b1, o1, e1, hlt, -⟩ := h1.2 h0
  rw [hx] at e1
  injection e1 with e1
  obtain ⟨vs, ho, -⟩ := h.own
  have := (Own.lt ho _ hv).1
  rw [e1] at this
  simp only at this
  omega
def OffB (v : Value) (n : Nat) (A : Option Addr) : Prop := 0 < n → ∀ x, A = some x → v.ownBlock ≠ some x.block
theorem rep_parts (x : RsP) (w : World) (hR : RsR w x) (hZ : RsZ x) (hok : (prtF x.r.b.length 0 x.r.p).isSome = true) :
    Calls Tryz.prog 60 #[rsW x] w (CutPost w (cutP x.r.b 0 x.r.p)) := by
  obtain ⟨r, Af, cf, Ab, cb, Ap, cp⟩ := x
  have hzb : r.b.length ≤ 1000000 := hZ.b
  have hzp : r.p.length ≤ 1000000 := hZ.p
  have hcb : r.b.length ≤ cb := hR.cb
  have hrb : Rd w w.heap.size 1 Ab r.b.length (r.b.map bv) := hR.rb
  have hrp : Rd w w.heap.size 1 Ap r.p.length (r.p.map fun i => Value.int .i64 i) := hR.rp
  show Calls Tryz.prog 60 #[.agg #[.int .i64 r.st, .slice Af r.f.length cf, .slice Ab r.b.length cb, .slice Ap r.p.length cp]] w (CutPost w (cutP r.b 0 r.p))
  have hok' : (prtF r.b.length 0 r.p).isSome = true := hok
  clear hok hR hZ
  go_enter Tryz.func60, Tryz.ntmps60
  go_upto_region 1 with (fail)
  obtain ⟨V, hV⟩ : ∃ V, V = w.alloc (.cells #[.int .i64 r.st, .slice Af r.f.length cf, .slice Ab r.b.length cb, .slice Ap r.p.length cp] 46) := ⟨_, rfl⟩
  rw [← hV]
  have LV : Below w.heap.size w V := by rw [hV]; exact allocW (Below.refl _ _) _
  have BV : Blk V w.heap.size 46 #[.int .i64 r.st, .slice Af r.f.length cf, .slice Ab r.b.length cb, .slice Ap r.p.length cp] := by rw [hV]; exact Blk.new' _ _ rfl _ _
  clear hV
  obtain ⟨x0, x1, x2, x3, z0, z1, z2, z3⟩ := BV.c4
  have hbV : Rd V V.heap.size 1 Ab r.b.length (r.b.map bv) := (hrb.below LV).more LV.size
  have hpV : Rd V V.heap.size 1 Ap r.p.length (r.p.map fun i => Value.int .i64 i) := (hrp.below LV).more LV.size
  have H0 : CtRel V r.b r.p 0 0 (.slice none 0 0) [] V := ⟨Nat.zero_le _, Nat.zero_le _, hok', rfl, rfl, OPs.nil _ _, Below.refl _ _⟩
  clear hok' hrb hrp
  go_wp2_with fail
  go_loopw [3, 4, 10] (fun x3 x4 x10 wr => ∃ (a k : Nat) (v : Value) (ps : List Bs), v = x3 ∧ x4 = .int .i64 a ∧ x10 = .int .i64 k ∧ CtRel V r.b r.p a k v ps wr) (fun _ _ x10 _ => r.p.length - (intOf x10).toNat)
  case atStart => exact ⟨0, 0, _, [], rfl, rfl, rfl, H0⟩
  case round =>
    obtain ⟨a, k, v, ps, hv, rfl, rfl, H⟩ := hrel
    subst hv
    have hk := H.kz
    have han := H.an
    have hpk := H.pk
    by_cases hlt : k < r.p.length
    · obtain ⟨z, hz, haz, hzl, hpl, hN⟩ := H.next hlt
      obtain ⟨hr, hne⟩ := H.rd hbV (z - a) (by omega)
      obtain ⟨b1, o1, rfl, hb1, hy⟩ := (hpV.below H.below).2 (by omega)
      have y1 := hy k (.int .i64 (z : Int)) (map_get _ _ _ _ hz)
      obtain ⟨b2, o2, rfl, hb2, hy2⟩ := hbV.2 (by omega)
      obtain ⟨q0, q1, q2, q3, p0, p1, p2, p3⟩ := (BV.belowW H.below).c4
      rw [Option.map_some, add_lit'] at hr hne
      obtain ⟨P, hP⟩ : ∃ P, P = (r.b.drop a).take (z - a) := ⟨_, rfl⟩
      rw [← hP] at hpl hr hN
      rw [← hpl] at hr hne
      have hof : OffB v P.length (some ⟨b2, o2 + a, none⟩) := hne
      have HPL := Lib.hid hpl
      have hsz := H.below.size
      have hzc : z ≤ cb := by omega
      clear hy hy2 hz hpl hne hP x0 x1 x2 x3 z0 z1 z2 z3
      go_upto_region 7 with (first
        | (at_builtin
           refine wp_appPs rfl _ _ rfl V.heap.size v ps rfl H.own wr.heap.size rfl (some ⟨b2, o2 + a, none⟩) (z - a) (cb - a) P HPL.out rfl hr hof (by omega) H.below.size ?_
           intro v' w' ho' hx'))
      go_wp2_with fail
      go_roundw
      case rel => exact ⟨z, k + 1, _, _, rfl, rfl, by go_num, hN _ _ ho' hx'⟩
      case measure => simp [intOf]; omega
    · have hke : k = r.p.length := by omega
      have heq := H.eq
      rw [List.drop_of_length_le (l := r.p) (i := k) (by omega), cutP, List.append_nil] at heq
      have HE := Lib.hid heq
      obtain ⟨A9, c9, rfl, hS⟩ := H.own.form
      have hb := H.below
      clear heq
      go_wp2
      go_ret
      exact ⟨A9, c9, by rw [HE.out]; rfl, by rw [HE.out]; exact hS, LV.trans (hb.mono LV.size)⟩
end Go.Proofs.YtlambdccmfnloaaGreatDoor
