/- usherref18: the reader of a body in chunks, in memory. usherref18: a body in chunks. usherref18.Read: the head's lines. -/
import Derived.Test.YtmjekdnfkgalbaaGreatDoorRgF
import Derived.Test.YtmjekdnfkgalbaaGreatDoorRfC
namespace Go.Proofs.YtmjekdnfkgalbaaGreatDoor
open Go.RowKit
set_option maxRecDepth 100000
set_option maxHeartbeats 4000000

structure XC (w : World) (g base : Nat) (x : RL) (Af : Option Addr) (cf : Nat) (Ab : Option Addr) (cb : Nat) (B : Bs) (Ap : Option Addr) (cp : Nat) (P : List Int) : Prop where
  blk : Blk w g 70 (xlC x Af cf (.slice Ab B.length cb) (.slice Ap P.length cp))
  f : OF w base (.slice Af x.f.length cf) x.f
  b : OB w base (.slice Ab B.length cb) B
  p : OI w base (.slice Ap P.length cp) P
  lo : base ≤ g
  nf : (Value.slice Af x.f.length cf).ownBlock ≠ some g
  nb : (Value.slice Ab B.length cb).ownBlock ≠ some g
  np : (Value.slice Ap P.length cp).ownBlock ≠ some g
  fb : ∀ k, (Value.slice Ab B.length cb).ownBlock = some k → (Value.slice Af x.f.length cf).ownBlock ≠ some k
  fp : ∀ k, (Value.slice Ap P.length cp).ownBlock = some k → (Value.slice Af x.f.length cf).ownBlock ≠ some k
  bp : ∀ k, (Value.slice Ap P.length cp).ownBlock = some k → (Value.slice Ab B.length cb).ownBlock ≠ some k
theorem XC.belowW {w w' : World} {g base : Nat} {x : RL} {Af : Option Addr} {cf : Nat} {Ab : Option Addr} {cb : Nat} {B : Bs} {Ap : Option Addr} {cp : Nat} {P : List Int} (h : XC w g base x Af cf Ab cb B Ap cp P) (hb : Below w.heap.size w w') : XC w' g base x Af cf Ab cb B Ap cp P :=
  ⟨h.blk.belowW hb, h.f.belowW hb, h.b.belowW hb, Own.belowW h.p hb, h.lo, h.nf, h.nb, h.np, h.fb, h.fp, h.bp⟩
theorem XC.new {w : World} {g base : Nat} {x : RL} {Af : Option Addr} {cf : Nat} (h : XH w g base x Af cf) : XC w g base x Af cf none 0 [] none 0 [] :=
  ⟨h.blk, h.own, OB.nil _ _, Own.nil _ _ _ _, h.lo, h.ne, by simp [Value.ownBlock], by simp [Value.ownBlock], by simp [Value.ownBlock], by simp [Value.ownBlock], by simp [Value.ownBlock]⟩
/-- Bytes more. -/
theorem XC.data {w w3 : World} {g base : Nat} {x : RL} {Af : Option Addr} {cf : Nat} {Ab : Option Addr} {cb : Nat} {B : Bs} {Ap : Option Addr} {cp : Nat} {P : List Int} (h : XC w g base x Af cf Ab cb B Ap cp P) {A' : Option Addr} {c' : Nat} {B' : Bs}
    (hx : Ext w w3 (.slice Ab B.length cb) (.slice A' B'.length c')) (ho : OB w3 base (.slice A' B'.length c') B') :
    XC (w3.setCell ⟨g, 2, none⟩ (.slice A' B'.length c')) g base x Af cf A' c' B' Ap cp P := by
  have hlt := h.blk.lt
  have hg : ∀ k, (Value.slice A' B'.length c').ownBlock = some k → k ≠ g := by
    intro k hk e
    rcases hx.own k hk with h9 | h9
    · exact h.nb (by rw [h9, e])
    · omega
  have hnew : ∀ (v : Value), (∀ k, v.ownBlock = some k → k < w.heap.size) → (∀ k, (Value.slice Ab B.length cb).ownBlock = some k → v.ownBlock ≠ some k) → ∀ k, (Value.slice A' B'.length c').ownBlock = some k → v.ownBlock ≠ some k := by
    intro v hv1 hv2 k hk e
    rcases hx.own k hk with h9 | h9
    · exact hv2 k h9 e
    · have := hv1 k e; omega
  have hpb : ∀ k, (Value.slice Ab B.length cb).ownBlock = some k → (Value.slice Ap P.length cp).ownBlock ≠ some k := fun k h1 h2 => h.bp k h2 h1
  refine ⟨?_, ?_, Own.far ho (p := ⟨g, 2, none⟩) hg _, ?_, h.lo, h.nf, fun e => hg g e rfl, h.np, hnew _ (fun k hk => Own.lt2 h.f hk) h.fb, h.fp, fun k h1 h2 => hnew _ (fun k hk => Own.lt2 h.p hk) hpb k h2 h1⟩
  · have hB := h.blk.fr hx.fr h.nb
    exact hB.set_ 2 _
  · exact Own.far (hx.keep h.f h.fb) (p := ⟨g, 2, none⟩) (fun k hk e => h.nf (by rw [hk, e])) _
  · exact Own.far (hx.keep h.p hpb) (p := ⟨g, 2, none⟩) (fun k hk e => h.np (by rw [hk, e])) _
/-- A part more. -/
theorem XC.part {w w3 : World} {g base : Nat} {x : RL} {Af : Option Addr} {cf : Nat} {Ab : Option Addr} {cb : Nat} {B : Bs} {Ap : Option Addr} {cp : Nat} {P : List Int} (h : XC w g base x Af cf Ab cb B Ap cp P) {A' : Option Addr} {c' : Nat} {P' : List Int}
    (hx : Ext w w3 (.slice Ap P.length cp) (.slice A' P'.length c')) (ho : OI w3 base (.slice A' P'.length c') P') :
    XC (w3.setCell ⟨g, 3, none⟩ (.slice A' P'.length c')) g base x Af cf Ab cb B A' c' P' := by
  have hlt := h.blk.lt
  have hg : ∀ k, (Value.slice A' P'.length c').ownBlock = some k → k ≠ g := by
    intro k hk e
    rcases hx.own k hk with h9 | h9
    · exact h.np (by rw [h9, e])
    · omega
  have hnew : ∀ (v : Value), (∀ k, v.ownBlock = some k → k < w.heap.size) → (∀ k, (Value.slice Ap P.length cp).ownBlock = some k → v.ownBlock ≠ some k) → ∀ k, (Value.slice A' P'.length c').ownBlock = some k → v.ownBlock ≠ some k := by
    intro v hv1 hv2 k hk e
    rcases hx.own k hk with h9 | h9
    · exact hv2 k h9 e
    · have := hv1 k e; omega
  refine ⟨?_, ?_, ?_, Own.far ho (p := ⟨g, 3, none⟩) hg _, h.lo, h.nf, h.nb, fun e => hg g e rfl, h.fb, hnew _ (fun k hk => Own.lt2 h.f hk) h.fp, hnew _ (fun k hk => Own.lt2 h.b hk) h.bp⟩
  · have hB := h.blk.fr hx.fr h.np
    exact hB.set_ 3 _
  · exact Own.far (hx.keep h.f h.fp) (p := ⟨g, 3, none⟩) (fun k hk e => h.nf (by rw [hk, e])) _
  · exact Own.far (hx.keep h.b h.bp) (p := ⟨g, 3, none⟩) (fun k hk e => h.nb (by rw [hk, e])) _
end Go.Proofs.YtmjekdnfkgalbaaGreatDoor
namespace Go.Proofs.YtmjekdnfkgalbaaGreatDoor
open Go.RowKit
set_option maxRecDepth 100000
set_option maxHeartbeats 4000000

/-- What chunks hands back. -/
def ChkP (w : World) (g base : Nat) (x : RL) (n : Nat) (r : R3 (Bs × List Int)) (e : Ending) (w' : World) : Prop :=
  match r with
  | .short => e = .returned (.tuple #[.int .i64 0, .int .i64 12]) ∧ Below base w w'
  | .bad => e = .returned (.tuple #[.int .i64 0, .int .i64 8]) ∧ Below base w w'
  | .ok a t => e = .returned (.tuple #[.int .i64 ((n - t.length : Nat) : Int), .int .i64 0]) ∧ Below base w w' ∧ ∃ Af cf Ab cb Ap cp, XC w' g base x Af cf Ab cb a.1 Ap cp a.2
theorem chk_one (k : Nat) (B : Bs) (P : List Int) (b : Bs) : chkR (k + 1) B P b =
    if P = [] ∧ b.head? = some 48 then .bad
    else if (sizL b).2 = -1 then .short
    else if (sizL b).2 = -2 then .bad
    else if (b.drop (sizL b).1.toNat).length < (sizL b).2.toNat then .short
    else
      let t := b.drop (sizL b).1.toNat
      let u := t.drop (sizL b).2.toNat
      if !(u.take 2).isPrefixOf crlf then .bad
      else if u.length < 2 then .short
      else if (sizL b).2 = 0 then .ok (B ++ t.take (sizL b).2.toNat, P) (u.drop 2)
      else chkR k (B ++ t.take (sizL b).2.toNat) (P ++ [((B ++ t.take (sizL b).2.toNat).length : Int)]) (u.drop 2) := by rw [chkR]
theorem sizL_ok (b : Bs) (h1 : (sizL b).2 ≠ -1) (h2 : (sizL b).2 ≠ -2) : ∃ n v : Nat, sizL b = ((n : Int), (v : Int)) ∧ 2 ≤ n ∧ n ≤ b.length := by
  unfold sizL at h1 h2 ⊢
  dsimp only at h1 h2 ⊢
  generalize hn : ((b.take 12).takeWhile hxB).length = n at *
  split at h1
  · rename_i h; rw [if_pos h] at h2; exact absurd rfl h2
  · rename_i h
    rw [if_neg h] at h2 ⊢
    rcases hd : b.drop n with _ | ⟨c, _ | ⟨d, r⟩⟩
    · rw [hd] at h1; exact absurd rfl h1
    · rw [hd] at h1 h2
      simp only [] at h1 h2
      split at h1
      · rename_i h; rw [if_pos h] at h2; exact absurd rfl h2
      · exact absurd rfl h1
    · have hl := congrArg List.length hd
      rw [List.length_drop, List.length_cons, List.length_cons] at hl
      rw [hd] at h1 h2
      simp only [] at h1 h2 ⊢
      split at h1
      · rename_i h; rw [if_pos h] at h2; exact absurd rfl h2
      · rename_i h
        rw [if_neg h] at h2 ⊢
        split at h1
        · rename_i h; rw [if_pos h] at h2; exact absurd rfl h2
        · rename_i h'
          rw [if_neg h']
          exact ⟨n + 2, hexV (b.take n), rfl, by omega, by omega⟩
/-- x[lo:] and x[:hi] of bytes, as rules of the walk. -/
theorem from_rule {w : World} {B n : Nat} {A : Option Addr} {l : Bs} (c lo : Nat) (hr : Rd w B 1 A n (l.map bv)) (hlo : lo ≤ n) (hc : n ≤ c) :
    ∃ A' c', n - lo ≤ c' ∧ (∀ w : World, (Instr.sliceAt 22 (.slice A n c) (some (.int .i64 (lo : Int))) none none).run Tryz.prog w = .ok (.slice A' (n - lo) c') w) ∧ Rd w B 1 A' (n - lo) ((l.drop lo).map bv) := by
  have hu : Tryz.prog.underlying 22 = some (.slice (Tryz.prog.elem 22)) := by kernel_rfl
  have hz : ∀ w : World, (sizeOf (Tryz.prog.elem 22)).run Tryz.prog w = .ok 1 w := fun w => by kernel_rfl
  refine ⟨if c = lo then A else A.map (·.add (lo * 1)), c - lo, by omega, fun w => ?_, ?_⟩
  · rw [run_sliceAt_slice w 22 _ _ _ _ hu, run_slice_l w 22 A n c hu .i64 lo (by omega) (by omega), hz]
    simp [Result.andThen, sliced]
  · split
    · have h0 : n - lo = 0 := by omega
      have h1 : l.length = n := by simpa using hr.1
      rw [h0, List.drop_eq_nil_of_le (by omega)]
      exact Rd.nil _ _ _ _
    · have h1 := (hr.cutFrom (k := lo) (by omega))
      rw [Nat.mul_one] at h1
      rw [List.map_drop]
      rw [Nat.mul_one]
      exact h1
theorem to_rule {w : World} {B n : Nat} {A : Option Addr} {l : Bs} (c hi : Nat) (hr : Rd w B 1 A n (l.map bv)) (hhi : hi ≤ n) (hc : n ≤ c) :
    ∃ A' c', hi ≤ c' ∧ (∀ w : World, (Instr.sliceAt 22 (.slice A n c) none (some (.int .i64 (hi : Int))) none).run Tryz.prog w = .ok (.slice A' hi c') w) ∧ Rd w B 1 A' hi ((l.take hi).map bv) := by
  have hu : Tryz.prog.underlying 22 = some (.slice (Tryz.prog.elem 22)) := by kernel_rfl
  have hz : ∀ w : World, (sizeOf (Tryz.prog.elem 22)).run Tryz.prog w = .ok 1 w := fun w => by kernel_rfl
  refine ⟨A, c, by omega, fun w => ?_, ?_⟩
  · rw [run_sliceAt_slice w 22 _ _ _ _ hu, run_slice_h w 22 A n c hu .i64 hi (by omega) (by omega), hz]
    cases A <;> simp [Result.andThen, sliced, Addr.add]
  · have h1 := (hr.cutTo (k := hi) (by omega))
    rw [Nat.mul_one] at h1
    rw [List.map_take]
    exact h1
theorem r18_chunks (x : RL) (g base : Nat) (Af : Option Addr) (cf : Nat) (A : Option Addr) (c : Nat) (b : Bs) (w : World) (hX : XH w g base x Af cf) (hr : Rd w base 1 A b.length (b.map bv)) (hc : b.length ≤ c) (hb : b.length ≤ 1000000) (hbw : base ≤ w.heap.size) :
    Calls Tryz.prog 38 #[.pointer (some ⟨g, 0, none⟩), .slice A b.length c] w (ChkP w g base x b.length (chkR (b.length + 1) [] [] b)) := by
  obtain ⟨N, hN⟩ : ∃ N, N = b.length + 1 := ⟨_, rfl⟩
  rw [← hN]
  have HN := Lib.hid hN
  have XC0 := XC.new hX
  clear hN hX
  go_enter Tryz.func38, Tryz.ntmps38
  go_wp2_with fail
  go_loopg [6, 7, 8, 9] N (fun gk v6 _ _ _ wr => ∃ (a : Nat) (B : Bs) (P : List Int) (Ab : Option Addr) (cb : Nat) (Ap : Option Addr) (cp : Nat), a ≤ b.length ∧ b.length - a < gk ∧ v6 = .int .i64 a ∧ Hid (chkR N [] [] b = chkR gk B P (b.drop a)) ∧ XC wr g base x Af cf Ab cb B Ap cp P ∧ B.length ≤ a ∧ P.length ≤ a ∧ Below base w wr)
  case atStart => exact ⟨0, [], [], none, 0, none, 0, Nat.zero_le _, by rw [HN.out]; omega, rfl, rfl, XC0, Nat.zero_le _, Nat.zero_le _, Below.refl _ _⟩
  case round =>
    obtain ⟨a, B, P, Ab, cb, Ap, cp, ha, hgk, rfl, HF, X, hBl, hPl, LB⟩ := hrel
    obtain ⟨m, rfl⟩ : ∃ m, gk = m + 1 := ⟨gk - 1, by omega⟩
    have HX := Lib.hid (HF.out.trans (chk_one m B P (b.drop a)))
    clear HF
    have hr1 := hr.below LB
    obtain ⟨A1, c1, hc1, hs1, hrd1⟩ := from_rule c a hr1 ha hc
    have hDl : (b.drop a).length = b.length - a := List.length_drop
    have hDs : ∀ k d, (b.drop a)[k]? = some d ↔ b[a + k]? = some d := fun k d => by rw [List.getElem?_drop]
    obtain ⟨T, hT⟩ : ∃ T : Bool, T = decide (P = [] ∧ (b.drop a).head? = some 48) := ⟨_, rfl⟩
    have HT := Lib.hid hT
    clear hT
    obtain ⟨D, hD⟩ : ∃ D, b.drop a = D := ⟨_, rfl⟩
    rw [hD] at HX HT hrd1 hDl hDs
    have HD := Lib.hid hD
    clear hD
    have hsz := fun (V : World) (hV : Rd V V.heap.size 1 A1 D.length (D.map bv)) => r18_size A1 c1 D V hV (by omega) (by omega)
    rw [hDl] at hsz
    have hok := sizL_ok D
    generalize hS : sizL D = S at *
    obtain ⟨zn, zv⟩ := S
    simp only [] at hsz HX
    have x3 := X.blk.c9.2.2.2.1
    have XX := X
    have hbr : base ≤ wr.heap.size := Nat.le_trans hbw LB.size
    have hrW : Rd wr wr.heap.size 1 A1 (b.length - a) (D.map bv) := hrd1.more hbr
    clear X hS
    go_wp2_with fail
    refine (hsz wr hrW).mono ?_
    rintro e w1 ⟨rfl, rfl⟩
    go_upto_region 3 with (fail)
    go_cut [36] (fun v36 wx => v36 = .bool T ∧ wr = wx)
    case first =>
      rcases P with _ | ⟨p0, P⟩
      · rcases D with _ | ⟨d, D⟩
        · have HT2 := Lib.hid (show T = false by rw [HT.out]; rfl)
          have hal : ¬ (a : Int) < (b.length : Int) := by simp at hDl; omega
          clear HT HX hgk hDl
          go_wp2_with fail
          go_meet
          case rel => exact ⟨by rw [HT2.out], rfl⟩
        · have HT2 := Lib.hid (show T = decide (d = 48) by rw [HT.out]; simp)
          have hal : (a : Int) < (b.length : Int) := by simp at hDl; omega
          obtain ⟨g0, o0, rfl, y0⟩ : ∃ g0 o0, A = some ⟨g0, o0, none⟩ ∧ wr.cell? ⟨g0, o0 + a, none⟩ = some (.int .u8 (d.toNat : Int)) := by
            obtain ⟨g0, o0, h1, -, h2⟩ := hr1.2 (by omega)
            refine ⟨g0, o0, h1, h2 a (bv d) (map_get bv _ _ _ ?_)⟩
            exact (hDs 0 d).1 rfl
          clear HT HX hgk hDl hrW hrd1 hDs HD
          by_cases h48 : d = 48
          · have q1 : ((d.toNat : Int) == 48) = true := by rw [h48]; rfl
            have q2 : (d.toNat : Int) = 48 := by rw [h48]; rfl
            have HT3 := Lib.hid (HT2.out.trans (decide_eq_true h48))
            clear HT2 h48
            go_wp2_with fail
            go_meet
            case rel => exact ⟨by rw [HT3.out], rfl⟩
          · have q1 : ((d.toNat : Int) == 48) = false := byte_ne' d 48 h48
            have q2 : ¬ (d.toNat : Int) = 48 := by simpa using q1
            have HT3 := Lib.hid (HT2.out.trans (decide_eq_false h48))
            clear HT2 h48
            go_wp2_with fail
            go_meet
            case rel => exact ⟨by rw [HT3.out], rfl⟩
      · have HT2 := Lib.hid (show T = false by rw [HT.out]; simp)
        have hp0 : ¬ (((p0 :: P).length : Nat) : Int) = 0 := by rw [List.length_cons]; omega
        have hp1 : ¬ (p0 :: P).length = 0 := by rw [List.length_cons]; omega
        clear HT HX
        generalize p0 :: P = P at *
        go_wp2_with fail
        go_meet
        case rel => exact ⟨by rw [HT2.out], rfl⟩
    case rest =>
      obtain ⟨rfl, rfl⟩ := hcut
      have HCP := Lib.hid (show ∀ r e w', chkR N [] [] b = r → ChkP w g base x b.length r e w' → ChkP w g base x b.length (chkR N [] [] b) e w' from fun r e w' h1 h2 => by rw [h1]; exact h2)
      generalize ChkP w g base x b.length (chkR N [] [] b) = LP at *
      cases T
      · have hno : ¬ (P = [] ∧ D.head? = some 48) := of_decide_eq_false HT.out.symm
        have HX1 := Lib.hid (HX.out.trans (if_neg hno))
        clear HX HT hno
        by_cases hv1 : zv = -1
        · subst hv1
          have HE := Lib.hid (HX1.out.trans (if_pos rfl))
          clear HX1 hok
          go_wp2_with fail
          exact HCP.out _ _ _ HE.out ⟨rfl, LB⟩
        · have HX2 := Lib.hid (HX1.out.trans (if_neg hv1))
          clear HX1
          by_cases hv2 : zv = -2
          · subst hv2
            have HE := Lib.hid (HX2.out.trans (if_pos rfl))
            clear HX2 hok
            go_wp2_with fail
            exact HCP.out _ _ _ HE.out ⟨rfl, LB⟩
          · have HX3 := Lib.hid (HX2.out.trans (if_neg hv2))
            obtain ⟨n, v, hnv, hn2, hnD⟩ := hok hv1 hv2
            injection hnv with hn hv
            subst hn hv
            clear HX2 hok hv1 hv2
            have hz1 : ¬ (v : Int) = -1 := by omega
            have hz2 : ¬ (v : Int) = -2 := by omega
            have hz1' : decide ((v : Int) = -1) = false := decide_eq_false hz1
            have hz2' : decide ((v : Int) = -2) = false := decide_eq_false hz2
            obtain ⟨a2, ha2⟩ : ∃ a2, a2 = a + n := ⟨_, rfl⟩
            have hwa : IntKind.i64.wrap ((a : Int) + (n : Int)) = (a2 : Int) := by rw [IntWalk.i64_in _ (by omega)]; omega
            obtain ⟨A2, c2, hc2, hs2, hrd2⟩ := from_rule c a2 hr1 (by omega) hc
            have hb2 : b.drop a2 = D.drop n := by rw [← HD.out, List.drop_drop, ha2]
            rw [hb2] at hrd2
            obtain ⟨t, ht⟩ : ∃ t, t = D.drop n := ⟨_, rfl⟩
            have htl : t.length = b.length - a2 := by rw [ht, ← hb2, List.length_drop]
            rw [← ht] at hrd2
            have HB2 := Lib.hid (hb2.trans ht.symm)
            have HX4 := Lib.hid (HX3.out)
            simp only [Int.toNat_natCast] at HX4
            rw [← ht] at HX4
            have ha2b : a2 ≤ b.length := by omega
            have HA2 := Lib.hid ha2
            have hlo2 : a + 2 ≤ a2 := by omega
            clear HX3 hb2 ht hs1 hrd1 hrW hDs hDl ha2
            by_cases hvl : t.length < v
            · have HE := Lib.hid (HX4.out.trans (if_pos hvl))
              have hgt : (v : Int) > ((b.length - a2 : Nat) : Int) := by omega
              have hgt2 : ((b.length - a2 : Nat) : Int) < (v : Int) := hgt
              clear HX4 hvl hrd2
              go_wp2_with fail
              exact HCP.out _ _ _ HE.out ⟨rfl, LB⟩
            · have HX5 := Lib.hid (HX4.out.trans (if_neg hvl))
              have hgt2 : ¬ ((b.length - a2 : Nat) : Int) < (v : Int) := by omega
              have hvt : v ≤ b.length - a2 := by omega
              obtain ⟨A3, c3, hc3, hs3, hrd3⟩ := to_rule c2 v hrd2 hvt hc2
              obtain ⟨x0, x1, x2, x3', x4, x5, x6, x7, x8, f0, f1, f2, f3, f4, -⟩ := XX.blk.c9
              obtain ⟨d1, hd1⟩ : ∃ d1, t.take v = d1 := ⟨_, rfl⟩
              have hd1l : d1.length = v := by rw [← hd1, List.length_take, htl]; omega
              obtain ⟨u, hu⟩ : ∃ u, t.drop v = u := ⟨_, rfl⟩
              rw [hd1] at hrd3
              rw [hd1, hu] at HX5
              obtain ⟨a3, ha3⟩ : ∃ a3, a3 = a2 + v := ⟨_, rfl⟩
              have hwa3 : IntKind.i64.wrap ((a2 : Int) + (v : Int)) = (a3 : Int) := by rw [IntWalk.i64_in _ (by omega)]; omega
              have hb3 : b.drop a3 = u := by rw [← hu, ← HB2.out, List.drop_drop, ha3]
              have HB3 := Lib.hid hb3
              clear HX4 hvl hd1 hu hb3 HB2
              have hlo3 : a2 ≤ a3 ∧ a3 ≤ b.length ∧ d1.length + a2 = a3 := by omega
              have HA3 := Lib.hid ha3
              clear ha3
              have hob := XX.b
              go_wp2_with fail
              go_region_law (refine step_appB rfl (.tmp 57) (.tmp 60) rfl base (.slice Ab B.length cb) B rfl hob ((Below.refl _ _).drew) A3 v c3 base rfl d1 (hrd3.drew) (by omega) hbr ?_; intro v' w7 ho7 hx7; obtain ⟨A7, c7, hv7, -, -, -⟩ := ho7.form; subst hv7; have B7 := XX.blk.fr hx7.fr XX.nb; obtain ⟨y0, y1, y2, y3, y4, y5, y6, y7, y8, z0, z1, z2, z3, z4, -⟩ := Blk.c9 B7; clear B7)
              all_goals
                have X8 := XX.data hx7 ho7
                have hb8 := LB.trans ((hx7.below hob (Nat.le_refl _) hbr).setCell XX.lo (p := ⟨g, 2, none⟩) (.slice A7 (B ++ d1).length c7))
                obtain ⟨W8, hW8⟩ : ∃ W8, W8 = w7.setCell ⟨g, 2, none⟩ (.slice A7 (B ++ d1).length c7) := ⟨_, rfl⟩
                have hbl : (B ++ d1).length ≤ a3 := by rw [List.length_append]; omega
                rw [show B.length + v = (B ++ d1).length by rw [List.length_append, hd1l], ← hW8]
                rw [← hW8] at X8 hb8
                obtain ⟨BB, hBB⟩ : ∃ BB, BB = B ++ d1 := ⟨_, rfl⟩
                rw [← hBB] at X8 HX5 hbl
                clear hx7 ho7 y0 y1 y2 y3 y4 y5 y6 y7 y8 z0 z1 z2 z3 z4 hW8 hBB hob XX x0 x1 x2 x4 x5 x6 x7 x8 f0 f1 f2 f3 f4 x3 hs3 hrd3 hs2 hrd2 hbr
                have hr8 := hr.below hb8
                have hul : u.length = b.length - a3 := by rw [← HB3.out, List.length_drop]
                obtain ⟨K, hK⟩ : ∃ K, K = min b.length (a3 + 2) := ⟨_, rfl⟩
                have hw2 : IntKind.i64.wrap ((a3 : Int) + 2) = (a3 : Int) + 2 := by rw [IntWalk.i64_in _ (by omega)]
                have hmn : min (b.length : Int) ((a3 : Int) + 2) = (K : Int) := by omega
                have hKa : a3 ≤ K ∧ K ≤ b.length ∧ K - a3 = min u.length 2 := by omega
                obtain ⟨A4, c4, hc4, hs4, hrd4⟩ := cut_rule c a3 K hr8 hKa.1 hKa.2.1 hc
                have ht2 : (b.drop a3).take (K - a3) = u.take 2 := by
                  rw [HB3.out, hKa.2.2]
                  rcases Nat.le_total u.length 2 with h | h
                  · rw [Nat.min_eq_left h, List.take_of_length_le (Nat.le_refl _), List.take_of_length_le h]
                  · rw [Nat.min_eq_right h]
                rw [ht2] at hrd4
                have hbg := fun w => r18_begins crlf (u.take 2) w (by decide) (by rw [List.length_take]; omega)
                unfold crlf at hbg
                have HK := Lib.hid hK
                obtain ⟨pp, hpp⟩ : ∃ pp, pp = (u.take 2).isPrefixOf crlf := ⟨_, rfl⟩
                unfold crlf at hpp
                rw [← hpp] at hbg
                have hnp : (!pp) = !(u.take 2).isPrefixOf crlf := by rw [hpp]; rfl
                rw [← hnp] at HX5
                have HKa := Lib.hid hKa
                clear hK ht2 hpp hnp hKa
                cases pp
                · have HE := Lib.hid (HX5.out.trans (if_pos rfl))
                  clear HX5
                  go_wp2_with (first
                    | (refine wpList_toString _ rfl (.tmp 75) 22 9 rfl 5 Tryz.underlying22 Tryz.underlying5 Tryz.underlying9 A4 (K - a3) c4 _ (u.take 2) rfl hrd4 ?_)
                    | (go_at_call 68
                       refine (hbg _).mono ?_
                       rintro e w1 ⟨rfl, rfl⟩))
                  exact HCP.out _ _ _ HE.out ⟨rfl, hb8⟩
                · have HX6 := Lib.hid (HX5.out.trans (if_neg (by decide)))
                  clear HX5
                  by_cases hu2 : u.length < 2
                  · have HE := Lib.hid (HX6.out.trans (if_pos hu2))
                    have hgt5 : (b.length : Int) < (a3 : Int) + 2 := by omega
                    clear HX6 hu2 hul
                    go_wp2_with (first
                      | (refine wpList_toString _ rfl (.tmp 75) 22 9 rfl 5 Tryz.underlying22 Tryz.underlying5 Tryz.underlying9 A4 (K - a3) c4 _ (u.take 2) rfl hrd4 ?_)
                      | (go_at_call 68
                         refine (hbg _).mono ?_
                         rintro e w1 ⟨rfl, rfl⟩))
                    exact HCP.out _ _ _ HE.out ⟨rfl, hb8⟩
                  · have HX7 := Lib.hid (HX6.out.trans (if_neg hu2))
                    have hgt5 : ¬ (b.length : Int) < (a3 : Int) + 2 := by omega
                    obtain ⟨a5, ha5⟩ : ∃ a5, a5 = a3 + 2 := ⟨_, rfl⟩
                    have HA5 := Lib.hid ha5
                    have hw5 : IntKind.i64.wrap ((a3 : Int) + 2) = (a5 : Int) := by rw [IntWalk.i64_in _ (by omega)]; omega
                    clear HX6 ha5
                    go_upto_region 21 with (first
                      | (refine wpList_toString _ rfl (.tmp 75) 22 9 rfl 5 Tryz.underlying22 Tryz.underlying5 Tryz.underlying9 A4 (K - a3) c4 _ (u.take 2) rfl hrd4 ?_)
                      | (go_at_call 68
                         refine (hbg _).mono ?_
                         rintro e w1 ⟨rfl, rfl⟩))
                    by_cases hv0 : v = 0
                    · have HE := Lib.hid (HX7.out.trans (if_pos (by omega)))
                      have hv0' : (v : Int) = 0 := by omega
                      have hlen : (u.drop 2).length = b.length - a5 := by rw [List.length_drop, hul, HA5.out]; omega
                      have HLN := Lib.hid (show ((b.length - (u.drop 2).length : Nat) : Int) = (a3 : Int) + 2 by rw [hlen]; have := HA5.out; omega)
                      clear HX7 hul hu2 hlen hs4 hrd4
                      go_wp2_with fail
                      exact HCP.out _ _ _ HE.out ⟨by rw [HLN.out]; rfl, hb8, Af, cf, A7, c7, Ap, cp, X8⟩
                    · have HE := Lib.hid (HX7.out.trans (if_neg (by omega)))
                      have hv0' : ¬ (v : Int) = 0 := by omega
                      have hop := X8.p
                      have hbw8 : base ≤ W8.heap.size := Nat.le_trans hbw hb8.size
                      obtain ⟨x0, x1, x2, x3, x4, x5, x6, x7, x8, f0, f1, f2, f3, f4, -⟩ := X8.blk.c9
                      have hg6 : g < W8.heap.size := X8.blk.lt
                      have hg7 : ¬ g = W8.heap.size := Nat.ne_of_lt hg6
                      have HUL := Lib.hid hul
                      have HL3 := Lib.hid (show ¬ u.length < 2 from hu2)
                      clear HX7 hs4 hrd4 hbg hul hu2 hgt5 hgt2 hw5
                      generalize hBBl : BB.length = bl at *
                      go_wp2_with fail
                      go_region_law (refine step_appI rfl (.tmp 94) (.tmp 101) rfl base (.slice Ap P.length cp) P rfl hop (allocW ((Below.refl _ _).drew) _) _ 1 1 (W8.heap.size + 1) rfl [(bl : Int)] (Rd.new W8.drew _ rfl [iv (bl : Int)] _ 1 1 rfl) (by simp; omega) hbw8 ?_; intro v' w9 ho9 hx9; obtain ⟨A9, c9, hv9, -, -, -⟩ := ho9.form; rw [show (P ++ [(bl : Int)]).length = P.length + 1 by simp] at hv9; subst hv9; have B9 := X8.blk.fr hx9.fr X8.np; obtain ⟨y0, y1, y2, y3, y4, y5, y6, y7, y8, z0, z1, z2, z3, z4, -⟩ := Blk.c9 B9; clear B9)
                      all_goals
                        have X10 := X8.part (P' := P ++ [(bl : Int)]) (by rw [show (P ++ [(bl : Int)]).length = P.length + 1 by simp]; exact hx9) (by rw [show (P ++ [(bl : Int)]).length = P.length + 1 by simp]; exact ho9)
                        rw [show (P ++ [(bl : Int)]).length = P.length + 1 by simp] at X10
                        have hb10 := hb8.trans ((hx9.below hop (Nat.le_refl _) hbw8).setCell X8.lo (p := ⟨g, 3, none⟩) (.slice A9 (P.length + 1) c9))
                        go_wp2
                        go_roundg m
                        case rel => exact ⟨a5, BB, P ++ [(bl : Int)], A7, c7, A9, c9, by have := HA5.out; have := HL3.out; have := HUL.out; omega, by have := HA5.out; have := HL3.out; have := HUL.out; omega, by rw [HA5.out]; rfl, Lib.hid (by rw [HE.out, HA5.out, ← List.drop_drop, HB3.out]), X10, by rw [hBBl]; have := HA5.out; omega, by rw [List.length_append, List.length_singleton]; have := HA5.out; omega, hb10⟩
                        case measure => omega
      · have hyes : P = [] ∧ D.head? = some 48 := of_decide_eq_true HT.out.symm
        have HE := Lib.hid (HX.out.trans (if_pos hyes))
        clear HX HT hyes
        go_wp2_with fail
        exact HCP.out _ _ _ HE.out ⟨rfl, LB⟩
end Go.Proofs.YtmjekdnfkgalbaaGreatDoor
namespace Go.Proofs.YtmjekdnfkgalbaaGreatDoor
open Go.RowKit
set_option maxRecDepth 100000
set_option maxHeartbeats 4000000

theorem lineQ_none (r : Bs) (h : (10 : UInt8) ∉ r) : lineOf r = none := by
  induction r with
  | nil => rfl
  | cons c r ih =>
    simp only [List.mem_cons, not_or] at h
    rw [lineOf, if_neg (fun e => h.1 e.symm), ih h.2]; rfl
theorem lineQ_some (r t : Bs) (k : Nat) (h : (10 : UInt8) ∉ r.take k) (hd : r.drop k = 10 :: t) : lineOf r = some (r.take k, t) := by
  rw [line_at r k h, hd, lineOf, if_pos rfl]; simp
theorem goQ_one (n : Nat) (x : RL) (r : Bs) : goL (n + 1) x r = match lineOf r with
    | none => if mayL x r then .short else .bad
    | some (s, t) =>
      if s.getLast? ≠ some 13 then .bad
      else if s.dropLast = [] then (if x.ends then .ok x t else .bad)
      else if (lineL x s.dropLast).2 then goL n (lineL x s.dropLast).1 t else .bad := by
  rw [goL]
  rcases lineOf r with _ | ⟨s, t⟩ <;> rfl
theorem chk_le : ∀ (k : Nat) (B : Bs) (P : List Int) (b : Bs) (a : Bs × List Int) (t : Bs), chkR k B P b = .ok a t → a.1.length ≤ B.length + b.length ∧ a.2.length ≤ P.length + b.length ∧ t.length ≤ b.length
  | 0, B, P, b, a, t, h => by simp [chkR] at h
  | k + 1, B, P, b, a, t, h => by
    rw [chk_one] at h
    split at h
    · cases h
    split at h
    · cases h
    split at h
    · cases h
    split at h
    · cases h
    dsimp only at h
    generalize (sizL b).1.toNat = z at *
    generalize (sizL b).2.toNat = v at *
    rename_i hv
    split at h
    · cases h
    split at h
    · cases h
    rename_i hu
    split at h
    · injection h with h1 h2
      subst h1
      subst h2
      simp only [List.length_append, List.length_take, List.length_drop] at *
      omega
    · have := chk_le k _ _ _ a t h
      simp only [List.length_append, List.length_take, List.length_drop, List.length_singleton] at *
      omega
theorem Blk.put4 {w : World} {g : Nat} {T : TypeId} {a0 a1 a2 a3 : Value} (h : Blk w g T #[a0, a1, a2, a3]) (b0 b1 b2 b3 : Value) : Blk ((((w.setCell ⟨g, 0, none⟩ b0).setCell ⟨g, 1, none⟩ b1).setCell ⟨g, 2, none⟩ b2).setCell ⟨g, 3, none⟩ b3) g T #[b0, b1, b2, b3] := by
  have h4 := (((h.set_ 0 b0).set_ 1 b1).set_ 2 b2).set_ 3 b3
  simpa using h4
theorem below_put4 {w0 w : World} {g B : Nat} (L : Below B w0 w) (hg : B ≤ g) (b0 b1 b2 b3 : Value) : Below B w0 ((((w.setCell ⟨g, 0, none⟩ b0).setCell ⟨g, 1, none⟩ b1).setCell ⟨g, 2, none⟩ b2).setCell ⟨g, 3, none⟩ b3) :=
  (((L.setCell (p := ⟨g, 0, none⟩) hg b0).setCell (p := ⟨g, 1, none⟩) hg b1).setCell (p := ⟨g, 2, none⟩) hg b2).setCell (p := ⟨g, 3, none⟩) hg b3
theorem own_put4 {w : World} {base e size n : Nat} {v : Value} {xs : List Value} (ho : Own w base e size v n xs) {g : Nat} (hg : g < base) (b0 b1 b2 b3 : Value) : Own ((((w.setCell ⟨g, 0, none⟩ b0).setCell ⟨g, 1, none⟩ b1).setCell ⟨g, 2, none⟩ b2).setCell ⟨g, 3, none⟩ b3) base e size v n xs := by
  have hn : ∀ k, v.ownBlock = some k → k ≠ g := fun k hk e => by have := (ho.lt k hk).1; omega
  exact Own.far (p := ⟨g, 3, none⟩) (Own.far (p := ⟨g, 2, none⟩) (Own.far (p := ⟨g, 1, none⟩) (Own.far (p := ⟨g, 0, none⟩) ho hn b0) hn b1) hn b2) hn b3
theorem XC.rs {w : World} {g base : Nat} {x : RL} {Af : Option Addr} {cf : Nat} {Ab : Option Addr} {cb : Nat} {B : Bs} {Ap : Option Addr} {cp : Nat} {P : List Int} (h : XC w g base x Af cf Ab cb B Ap cp P) (g0 : Nat) (hg : g0 < base) (b0 b1 b2 b3 : Value) :
    RsR ((((w.setCell ⟨g0, 0, none⟩ b0).setCell ⟨g0, 1, none⟩ b1).setCell ⟨g0, 2, none⟩ b2).setCell ⟨g0, 3, none⟩ b3) ⟨⟨x.st, x.f, B, P⟩, Af, cf, Ab, cb, Ap, cp⟩ := by
  have h1 : Own w base 58 2 (.slice Af x.f.length cf) x.f.length (fcells x.f) := h.f
  have h2 : Own w base 5 1 (.slice Ab B.length cb) B.length (B.map bv) := h.b
  have h3 : Own w base 3 1 (.slice Ap P.length cp) P.length (P.map fun i => Value.int .i64 i) := h.p
  exact ⟨rd_of_own (own_put4 h1 hg b0 b1 b2 b3), rd_of_own (own_put4 h2 hg b0 b1 b2 b3), rd_of_own (own_put4 h3 hg b0 b1 b2 b3), (Own.rdS h1).1, (Own.rdS h2).1, (Own.rdS h3).1⟩
theorem XC.rn {w : World} {g base : Nat} {x : RL} {Af : Option Addr} {cf : Nat} {Ab : Option Addr} {cb : Nat} {B : Bs} {Ap : Option Addr} {cp : Nat} {P : List Int} (h : XC w g base x Af cf Ab cb B Ap cp P) {M : Nat} (hM : M ≤ base) : RsN M ⟨⟨x.st, x.f, B, P⟩, Af, cf, Ab, cb, Ap, cp⟩ :=
  ⟨own_new h.f hM, own_new h.b hM, own_new h.p hM⟩
theorem r18_ret (tmps : Array Value) (g : Nat) (w : World) (v0 v1 v2 v3 : Value) (en : Bool) (n y : Int) (R : Ending → World → Prop) (h4 : tmps[4]? = some (.pointer (some ⟨g, 0, none⟩))) (h5 : tmps[5]? = some (.bool en)) (h6 : tmps[6]? = some (.int .i64 n)) (h7 : tmps[7]? = some (.int .i64 y))
    (B : Blk w g 38 #[v0, v1, v2, v3])
    (hR : R (.returned (.tuple #[.agg #[v0, v1, v2, v3], .bool en, .int .i64 n, .int .i64 y])) w) :
    bodyPost Tryz.prog Tryz.f16 R .ret { tmps := tmps, defers := [] } w := by
  obtain ⟨j0, j1, j2, j3, -, -, -, -⟩ := B.c4
  exact bodyPost_ret (v := .tuple #[.agg #[v0, v1, v2, v3], .bool en, .int .i64 n, .int .i64 y]) (by simp [results, Tryz.results16, go_sem, h4, h5, h6, h7, j0, j1, j2, j3]) rfl hR
theorem Ext.fresh {w w' : World} {o : Obj} {n c : Nat} {v' : Value} (h : Ext (w.alloc o) w' (.slice (some ⟨w.heap.size, 0, none⟩) n c) v') : Ext w w' (.slice none 0 0) v' := by
  refine ⟨Fr.trans (Fr.mono (T := fun k => (Value.slice none 0 0).ownBlock = some k) (Fr.ofBelow (allocW (Below.refl _ _) o)) (fun i hi => .inr hi)) h.fr (fun i hi => .inr ?_), fun k hk => .inr ?_⟩
  · simp [Value.ownBlock] at hi
    omega
  · rcases h.own k hk with h1 | h1
    · simp [Value.ownBlock] at h1
      omega
    · simp at h1
      omega
theorem r18_ReadN (A : Option Addr) (c : Nat) (b : Bs) (hd : Bool) (w : World) (hr : Rd w w.heap.size 1 A b.length (b.map bv)) (hc : b.length ≤ c) (hb : b.length ≤ 999999) :
    Calls Tryz.prog 16 #[.slice A b.length c, .bool hd] w (ReadPostN w (readR hd b)) := by
  obtain ⟨V, hV⟩ : ∃ V, V = (w.alloc (.cells rsZ 38)).alloc (.cells (xlC rl0 none 0 (.slice none 0 0) (.slice none 0 0)) 70) := ⟨_, rfl⟩
  have L1 : Below w.heap.size w V := by rw [hV]; exact allocW (allocW (Below.refl _ _) _) _
  have B1 : Blk V w.heap.size 38 rsZ := by rw [hV]; exact (Blk.new w _ _).alloc _
  have B2 : XH V (w.heap.size + 1) (w.heap.size + 1) rl0 none 0 := by
    refine ⟨?_, OF.nil _ _, Nat.le_refl _, by simp [Value.ownBlock]⟩
    rw [hV]; exact Blk.new' _ _ (by simp) _ _
  have hVs : V.heap.size = w.heap.size + 2 := by rw [hV]; simp
  unfold xlC rl0 at hV
  obtain ⟨N, hN⟩ : ∃ N, N = b.length + 1 := ⟨_, rfl⟩
  have HR := Lib.hid (show readR hd b = readOf b ((goL N rl0 b).bind (bodR hd)) by rw [hN]; rfl)
  have HN := Lib.hid hN
  have HVS := Lib.hid hVs
  clear hN hVs
  go_enter Tryz.func16, Tryz.ntmps16
  go_wp2_with fail
  rw [show ((w.alloc (.cells #[.int .i64 0, .slice none 0 0, .slice none 0 0, .slice none 0 0] 38)).alloc (.cells #[.int .i64 0, .slice none 0 0, .slice none 0 0, .slice none 0 0, .int .i64 0, .bool false, .bool false, .bool false, .int .i64 0] 70)) = V from hV.symm]
  clear hV
  go_loopg [9, 10, 11] N (fun gk v9 _ _ wr => ∃ (a : Nat) (x : RL) (Af : Option Addr) (cf : Nat), a ≤ b.length ∧ b.length - a < gk ∧ v9 = .int .i64 a ∧ Hid (goL N rl0 b = goL gk x (b.drop a)) ∧ XH wr (w.heap.size + 1) (w.heap.size + 1) x Af cf ∧ x.f.length ≤ 24 ∧ Blk wr w.heap.size 38 rsZ ∧ Below w.heap.size w wr)
  case atStart => exact ⟨0, rl0, none, 0, Nat.zero_le _, by rw [HN.out]; omega, rfl, rfl, B2, by decide, B1, L1⟩
  case round =>
    obtain ⟨a, x, Af, cf, ha, hgk, rfl, HF, X, hf24, BW, LB⟩ := hrel
    obtain ⟨m, rfl⟩ : ∃ m, gk = m + 1 := ⟨gk - 1, by omega⟩
    have HX := Lib.hid (HF.out.trans (goQ_one m x (b.drop a)))
    clear HF
    have hrd := hr.below LB
    have hat : ∀ (k : Nat) (d : UInt8), b[k]? = some d → ∃ g o, A = some ⟨g, o, none⟩ ∧ wr.cell? ⟨g, o + k, none⟩ = some (.int .u8 (d.toNat : Int)) := by
      intro k d hd
      have hk := (List.getElem?_eq_some_iff.1 hd).1
      obtain ⟨g, o, h1, -, h2⟩ := hrd.2 (by omega)
      exact ⟨g, o, h1, h2 k (bv d) (map_get bv _ _ _ hd)⟩
    have HAT := Lib.hid hat
    clear hat
    go_wp2_with fail
    go_loopw [10] (fun i ww => ∃ k : Nat, a ≤ k ∧ k ≤ b.length ∧ i = .int .i64 k ∧ Hid ((10 : UInt8) ∉ (b.drop a).take (k - a)) ∧ wr = ww) (fun i _ => b.length - (intOf i).toNat)
    case atStart => exact ⟨a, Nat.le_refl _, ha, rfl, Lib.hid (by simp), rfl⟩
    case round =>
      obtain ⟨k, hak, hk, rfl, H, rfl⟩ := hrel
      obtain ⟨T, hT⟩ : ∃ T : Bool, T = (decide (k < b.length) && decide (b[k]? ≠ some 10)) := ⟨_, rfl⟩
      have HT := Lib.hid hT
      clear hT
      go_upto_region 4 with (fail)
      go_cut [27] (fun v27 wx => v27 = .bool T ∧ wr = wx)
      case first =>
        by_cases h1 : k < b.length
        · have h1' : (k : Int) < (b.length : Int) := by omega
          obtain ⟨d, hd⟩ : ∃ d, b[k]? = some d := ⟨_, List.getElem?_eq_getElem h1⟩
          obtain ⟨g, o, rfl, y0⟩ := HAT.out k d hd
          have HT2 := Lib.hid (show T = !decide (d = 10) by
            rw [HT.out, decide_eq_true h1, Bool.true_and, hd]
            by_cases h : d = 10 <;> simp [h])
          clear hd HT h1
          by_cases h10 : d = 10
          · have q1 : ((d.toNat : Int) == 10) = true := by rw [h10]; rfl
            have q2 : (d.toNat : Int) = 10 := by rw [h10]; rfl
            have HT3 := Lib.hid (HT2.out.trans (by rw [decide_eq_true h10]; rfl : (!decide (d = 10)) = false))
            clear HT2 h10
            go_wp2_with fail
            go_meet
            case rel => exact ⟨by rw [HT3.out], rfl⟩
          · have q1 : ((d.toNat : Int) == 10) = false := byte_ne' d 10 h10
            have q2 : ¬ (d.toNat : Int) = 10 := by simpa using q1
            have HT3 := Lib.hid (HT2.out.trans (by rw [decide_eq_false h10]; rfl : (!decide (d = 10)) = true))
            clear HT2 h10
            go_wp2_with fail
            go_meet
            case rel => exact ⟨by rw [HT3.out, bne, q1]; rfl, rfl⟩
        · have h1' : ¬ (k : Int) < (b.length : Int) := by omega
          have HT2 := Lib.hid (show T = false by rw [HT.out, decide_eq_false h1]; rfl)
          clear HT h1
          go_wp2_with fail
          go_meet
          case rel => exact ⟨by rw [HT2.out], rfl⟩
      case rest =>
        obtain ⟨rfl, rfl⟩ := hcut
        cases T
        · have HK := Lib.hid (show k = b.length ∨ b[k]? = some 10 by
            have h := HT.out
            by_cases h1 : k < b.length
            · rw [decide_eq_true h1, Bool.true_and] at h
              exact .inr (Decidable.not_not.1 (of_decide_eq_false h.symm))
            · exact .inl (by omega))
          clear HT
          obtain ⟨A1, c1, hc1, hs1, hrd1⟩ := cut_rule c a k hrd hak hk hc
          obtain ⟨s, hs⟩ : ∃ s, s = (b.drop a).take (k - a) := ⟨_, rfl⟩
          rw [← hs] at hrd1
          have hsl : s.length = k - a := by rw [hs, List.length_take, List.length_drop]; omega
          have H2 := Lib.hid (show (10 : UInt8) ∉ s by rw [hs]; exact H.out)
          have HS := Lib.hid hs
          clear H hs
          have hM := r18_may x s (w.heap.size + 1) Af cf _ _ wr X.blk (by omega) (by omega)
          go_upto_region 7 with (refine wpList_toString _ rfl (.tmp 33) 22 9 rfl 5 Tryz.underlying22 Tryz.underlying5 Tryz.underlying9 A1 (k - a) c1 _ s rfl hrd1 ?_)
          clear hs1 hrd1 hc1
          by_cases hkl : k = b.length
          · have hkl2 : (k : Int) = (b.length : Int) := by omega
            have hsd : s = b.drop a := by
              rw [HS.out]
              exact List.take_of_length_le (by rw [List.length_drop]; omega)
            have HE := Lib.hid (HX.out)
            rw [← hsd, lineQ_none s H2.out] at HE
            clear HX hkl hsd HK
            cases hm : mayL x s
            · rw [hm] at hM HE
              clear hm
              go_wp2_with fail
              refine hM.mono ?_
              rintro e w1 ⟨rfl, L1⟩
              have B9 := BW.belowW L1
              obtain ⟨j0, j1, j2, j3, f0, f1, f2, f3⟩ := B9.c4
              go_wp2_with fail
              exact r18_ret _ w.heap.size _ _ _ _ _ false 0 8 _ rfl rfl rfl rfl (B9.put4 _ _ _ _) (readP_no (by rw [HR.out, HE.out]; rfl) (below_put4 (stepW LB L1) (Nat.le_refl _) _ _ _ _))
            · rw [hm] at hM HE
              clear hm
              go_wp2_with fail
              refine hM.mono ?_
              rintro e w1 ⟨rfl, L1⟩
              have B9 := BW.belowW L1
              obtain ⟨j0, j1, j2, j3, f0, f1, f2, f3⟩ := B9.c4
              go_wp2_with fail
              exact r18_ret _ w.heap.size _ _ _ _ _ false 0 12 _ rfl rfl rfl rfl (B9.put4 _ _ _ _) (readP_no (by rw [HR.out, HE.out]; rfl) (below_put4 (stepW LB L1) (Nat.le_refl _) _ _ _ _))
          · have hbk : b[k]? = some 10 := by
              rcases HK.out with h | h
              · exact absurd h hkl
              · exact h
            have hkb : k < b.length := by omega
            have hkl2 : ¬ (k : Int) = (b.length : Int) := by omega
            obtain ⟨t, ht⟩ : ∃ t, t = b.drop (k + 1) := ⟨_, rfl⟩
            have htl : t.length = b.length - (k + 1) := by rw [ht, List.length_drop]
            have hline : lineOf (b.drop a) = some (s, t) := by
              have h2 := H2.out
              rw [HS.out] at h2 ⊢
              rw [ht]
              refine lineQ_some _ _ _ h2 ?_
              rw [List.drop_drop, show a + (k - a) = k by omega]
              obtain ⟨h3, h4⟩ := List.getElem?_eq_some_iff.1 hbk
              rw [List.drop_eq_getElem_cons h3, h4]
            have HE := Lib.hid (show goL N rl0 b = if s.getLast? ≠ some 13 then .bad else if s.dropLast = [] then (if x.ends then .ok x t else .bad) else if (lineL x s.dropLast).2 then goL m (lineL x s.dropLast).1 t else .bad by
              have h := HX.out
              rw [hline] at h
              exact h)
            have HT := Lib.hid ht
            have hsle : s.length ≤ 999999 := by omega
            have HTL := Lib.hid htl
            clear HX hline HK hkl HS hM hbk ht H2 hsl htl
            have hgw : w.heap.size + 1 ≤ wr.heap.size := Nat.le_of_lt X.blk.lt
            obtain ⟨a1, ha1⟩ : ∃ a1, a1 = k + 1 := ⟨_, rfl⟩
            have HA1 := Lib.hid ha1
            have hw1 : IntKind.i64.wrap ((k : Int) + 1) = (a1 : Int) := by rw [IntWalk.i64_in _ (by omega)]; omega
            have ha1b : a1 ≤ b.length := by omega
            clear ha1
            rcases hse : s with _ | ⟨c0, s0⟩
            · subst hse
              have HE2 := Lib.hid (HE.out.trans (if_pos (by decide)))
              clear HE
              obtain ⟨j0, j1, j2, j3, f0, f1, f2, f3⟩ := BW.c4
              go_wp2_with fail
              exact r18_ret _ w.heap.size _ _ _ _ _ false 0 8 _ rfl rfl rfl rfl (BW.put4 _ _ _ _) (readP_no (by rw [HR.out, HE2.out]; rfl) (below_put4 LB (Nat.le_refl _) _ _ _ _))
            · rw [← hse]
              have hne : s ≠ [] := by rw [hse]; simp
              have hl : 1 ≤ s.length := by rw [hse]; simp
              clear hse
              obtain ⟨d, hb1, hb2, -⟩ := last_bt' s hne
              have hx := ext_take s (s.length - 1)
              rw [← List.dropLast_eq_take] at hx
              have hbs := PlainAid.get_bt ⟨s.toArray⟩
              have hz : (⟨s.toArray⟩ : ByteArray).size = s.length := size_mk' s
              have hi1 : ((s.length : Int) - 1).toNat = s.length - 1 := by omega
              have hi2 : (0 : Int) ≤ (s.length : Int) - 1 := by omega
              have h3 : s.isEmpty = false := by cases s with | nil => exact absurd rfl hne | cons _ _ => rfl
              have h4 : ¬ (s.toArray = #[]) := by simpa using hne
              have h5 : ¬ s.length = 0 := by omega
              rw [hb1] at HE
              have hsl1 : s.dropLast.length ≤ 999999 := by rw [List.length_dropLast]; omega
              generalize s.dropLast = s1 at *
              clear hb1 hl
              by_cases hd13 : d = 13
              · subst hd13
                have HE2 := Lib.hid (HE.out.trans (if_neg (by simp)))
                clear HE
                go_upto_region 15 with (fail)
                clear hx hbs hz hi1 hi2 h3 h4 h5 hb2 hne
                by_cases hs1 : s1 = []
                · have HE3 := Lib.hid (HE2.out.trans (if_pos hs1))
                  subst hs1
                  have hEn := r18_ends x (w.heap.size + 1) Af cf _ _ wr X.blk
                  clear HE2
                  obtain ⟨j0, j1, j2, j3, f0, f1, f2, f3⟩ := BW.c4
                  cases hen : x.ends
                  · rw [hen] at HE3 hEn
                    clear hen
                    go_wp2_with fail
                    refine hEn.mono ?_
                    rintro e w1 ⟨rfl, rfl⟩
                    go_wp2_with fail
                    exact r18_ret _ w.heap.size _ _ _ _ _ false 0 8 _ rfl rfl rfl rfl (BW.put4 _ _ _ _) (readP_no (by rw [HR.out, HE3.out]; rfl) (below_put4 LB (Nat.le_refl _) _ _ _ _))
                  · rw [hen] at HE3 hEn
                    clear hen
                    obtain ⟨x0, x1, x2, x3, x4, x5, x6, x7, x8, g0, g1, g2, g3, g4, g5, g6, g7, g8⟩ := X.blk.c9
                    have HGW := Lib.hid hgw
                    cases hd
                    · have HB := Lib.hid (show (goL N rl0 b).bind (bodR false) = if x.chunked then (chkR (t.length + 1) [] [] t).bind fun y t => .ok (⟨x.st, x.f, y.1, y.2⟩, x.close) t else if t.length < x.len then .short else .ok (⟨x.st, x.f, t.take x.len, []⟩, x.close) (t.drop x.len) by rw [HE3.out]; rfl)
                      clear HE3
                      have htd : b.drop a1 = t := by rw [HT.out, HA1.out]
                      have htn : b.length - a1 = t.length := by rw [← htd, List.length_drop]
                      have htm : t.length ≤ 999999 := by omega
                      obtain ⟨A2, c2, hc2, hs2, hrd2⟩ := from_rule c a1 hrd ha1b hc
                      rw [htd, htn] at hrd2
                      rw [htn] at hs2 hc2
                      have HTN := Lib.hid htn
                      clear htn htd
                      cases hch : x.chunked
                      · rw [hch] at x7
                        have HB2 := Lib.hid (HB.out.trans (by rw [hch]))
                        clear HB hch
                        by_cases hlt : t.length < x.len
                        · have hlt2 : (t.length : Int) < (x.len : Int) := by omega
                          have HB3 := Lib.hid (show (goL N rl0 b).bind (bodR false) = .short by rw [HB2.out]; exact if_pos hlt)
                          have hwt : IntKind.i64.wrap ((b.length : Int) - (a1 : Int)) = (t.length : Int) := by
                            have := HTN.out
                            rw [IntWalk.i64_in _ (by omega)]
                            omega
                          clear HB2 hlt
                          go_wp2_with fail
                          refine hEn.mono ?_
                          rintro e w1 ⟨rfl, rfl⟩
                          go_wp2_with fail
                          exact r18_ret _ w.heap.size _ _ _ _ _ false 0 12 _ rfl rfl rfl rfl (BW.put4 _ _ _ _) (readP_no (by rw [HR.out, HB3.out]; rfl) (below_put4 LB (Nat.le_refl _) _ _ _ _))
                        · have hlt2 : ¬ (t.length : Int) < (x.len : Int) := by omega
                          have HB3 := Lib.hid (show (goL N rl0 b).bind (bodR false) = .ok (⟨x.st, x.f, t.take x.len, []⟩, x.close) (t.drop x.len) by rw [HB2.out]; exact if_neg hlt)
                          have hwt : IntKind.i64.wrap ((b.length : Int) - (a1 : Int)) = (t.length : Int) := by
                            have := HTN.out
                            rw [IntWalk.i64_in _ (by omega)]
                            omega
                          obtain ⟨a2, ha2⟩ : ∃ a2, a2 = a1 + x.len := ⟨_, rfl⟩
                          have hab : a1 ≤ a2 ∧ a2 ≤ b.length := by have := HTN.out; omega
                          have hw2 : IntKind.i64.wrap ((a1 : Int) + (x.len : Int)) = (a2 : Int) := by rw [IntWalk.i64_in _ (by omega)]; omega
                          obtain ⟨A3, c3, hc3, hs3, hrd3⟩ := cut_rule c a1 a2 hrd hab.1 hab.2 hc
                          obtain ⟨D, hD⟩ : ∃ D, D = t.take x.len := ⟨_, rfl⟩
                          have hDl : D.length = a2 - a1 := by rw [hD, List.length_take]; omega
                          have hDt : (b.drop a1).take (a2 - a1) = D := by rw [hD, HA1.out, ← HT.out, show a2 - (k + 1) = x.len by have := HA1.out; omega]
                          rw [hDt, ← hDl] at hrd3
                          rw [← hDl] at hs3 hc3
                          rw [← hD] at HB3
                          have HA2 := Lib.hid ha2
                          have HDL := Lib.hid hDl
                          have hge := X.blk.lt
                          have XC0 := XC.new X
                          clear HB2 hlt ha2 hDl hDt hD hs2 hrd2 hc2
                          have ho0 : OB (wr.alloc (.cells #[] 5)) (w.heap.size + 1) (.slice (some ⟨wr.heap.size, 0, none⟩) 0 0) [] := Own.lit wr _ rfl _ hgw 5 1 0 [] rfl (by decide)
                          go_wp2_with fail
                          refine hEn.mono ?_
                          rintro e w1 ⟨rfl, rfl⟩
                          go_upto_region 23 with (at_builtin; refine wp_appRd rfl (.tmp 85) (.tmp 94) rfl (w.heap.size + 1) (.slice (some ⟨wr.heap.size, 0, none⟩) 0 0) [] rfl ho0 (Below.refl _ _) A3 D.length c3 _ rfl D (hrd3.below ((Below.refl _ _).alloc LB.size _)) (by have := HDL.out; rw [List.length_nil]; omega) (by rw [World.alloc, Array.size_push]; omega) ?_; intro v' w7 ho7 hx7; rw [List.nil_append] at ho7; obtain ⟨A7, c7, hv7, -, -, -⟩ := ho7.form; subst hv7; have B7 := XC0.blk.fr (hx7.fresh).fr XC0.nb; obtain ⟨y0, y1, y2, y3, y4, y5, y6, y7, y8, z0, z1, z2, z3, z4, -⟩ := Blk.c9 B7; clear B7)
                          have X9 := XC0.data hx7.fresh ho7
                          have LX := ((hx7.fresh.below XC0.b (Nat.le_refl _) hgw).setCell XC0.lo (p := ⟨w.heap.size + 1, 2, none⟩) (.slice A7 D.length c7))
                          obtain ⟨w1, hw1⟩ : ∃ w1, w1 = w7.setCell ⟨w.heap.size + 1, 2, none⟩ (.slice A7 D.length c7) := ⟨_, rfl⟩
                          rw [← hw1] at X9 LX ⊢
                          clear hx7 ho7 y0 y1 y2 y3 y4 y5 y6 y7 y8 z0 z1 z2 z3 z4 hw1
                          have BR := BW.below LX (Nat.lt_succ_self _)
                          obtain ⟨j0, j1, j2, j3, f0, f1, f2, f3⟩ := BR.c4
                          obtain ⟨x0, x1, x2, x3, x4, x5, x6, x7, x8, g0, g1, g2, g3, g4, g5, g6, g7, g8⟩ := X9.blk.c9
                          go_wp2_with fail
                          have S0 : w1.cell? ⟨w.heap.size + 1, 0, none⟩ = some (.int .i64 x.st) ∧ w1.cell? ⟨w.heap.size + 1, 1, none⟩ = some (.slice Af x.f.length cf) ∧ w1.cell? ⟨w.heap.size + 1, 2, none⟩ = some (.slice A7 D.length c7) ∧ w1.cell? ⟨w.heap.size + 1, 3, none⟩ = some (.slice none 0 0) ∧ w1.cell? ⟨w.heap.size + 1, 5, none⟩ = some (.bool x.close) := ⟨x0, x1, x2, x3, x5⟩
                          have hgg : ¬ w.heap.size = w.heap.size + 1 := by omega
                          have hgg2 : ¬ w.heap.size + 1 = w.heap.size := by omega
                          go_region_held3 (fun w' => w'.cell? ⟨w.heap.size + 1, 0, none⟩ = some (.int .i64 x.st) ∧ w'.cell? ⟨w.heap.size + 1, 1, none⟩ = some (.slice Af x.f.length cf) ∧ w'.cell? ⟨w.heap.size + 1, 2, none⟩ = some (.slice A7 D.length c7) ∧ w'.cell? ⟨w.heap.size + 1, 3, none⟩ = some (.slice none 0 0) ∧ w'.cell? ⟨w.heap.size + 1, 5, none⟩ = some (.bool x.close)) (first | with_reducible exact S0 | go_keep) (fail)
                          go_wp2_with fail
                          exact r18_ret _ w.heap.size _ _ _ _ _ x.close (a2 : Int) 0 _ rfl rfl rfl rfl ((BR.put4 _ _ _ _).drew) (readP_ok (by rw [HR.out, HB3.out]; rfl) (by have := HA1.out; have := HTL.out; have := HA2.out; rw [List.length_drop]; omega) (RsR.drew (X9.rs w.heap.size (Nat.lt_succ_self _) _ _ _ _)) (X9.rn (Nat.le_succ _)) (Below.drew (below_put4 (LB.trans (LX.mono (Nat.le_succ _))) (Nat.le_refl _) _ _ _ _)))
                      · rw [hch] at x7
                        have HB2 := Lib.hid (HB.out.trans (by rw [hch]))
                        have hCk := r18_chunks x (w.heap.size + 1) (w.heap.size + 1) Af cf A2 c2 t wr X (hrd2.more (Nat.le_succ _)) hc2 (by omega) hgw
                        clear HB hch hgw
                        rcases hq : chkR (t.length + 1) [] [] t with _ | _ | ⟨⟨B9, P9⟩, u⟩
                        · rw [hq] at hCk HB2
                          go_wp2_with fail
                          refine hEn.mono ?_
                          rintro e w1 ⟨rfl, rfl⟩
                          go_wp2_with fail
                          refine hCk.mono ?_
                          rintro e w1 ⟨rfl, L1⟩
                          have B9 := BW.below L1 (Nat.lt_succ_self _)
                          obtain ⟨j0, j1, j2, j3, f0, f1, f2, f3⟩ := B9.c4
                          go_wp2_with fail
                          exact r18_ret _ w.heap.size _ _ _ _ _ false 0 12 _ rfl rfl rfl rfl (B9.put4 _ _ _ _) (readP_no (by rw [HR.out, HB2.out]; rfl) (below_put4 (LB.trans (L1.mono (Nat.le_succ _))) (Nat.le_refl _) _ _ _ _))
                        · rw [hq] at hCk HB2
                          go_wp2_with fail
                          refine hEn.mono ?_
                          rintro e w1 ⟨rfl, rfl⟩
                          go_wp2_with fail
                          refine hCk.mono ?_
                          rintro e w1 ⟨rfl, L1⟩
                          have B9 := BW.below L1 (Nat.lt_succ_self _)
                          obtain ⟨j0, j1, j2, j3, f0, f1, f2, f3⟩ := B9.c4
                          go_wp2_with fail
                          exact r18_ret _ w.heap.size _ _ _ _ _ false 0 8 _ rfl rfl rfl rfl (B9.put4 _ _ _ _) (readP_no (by rw [HR.out, HB2.out]; rfl) (below_put4 (LB.trans (L1.mono (Nat.le_succ _))) (Nat.le_refl _) _ _ _ _))
                        · rw [hq] at hCk HB2
                          have hut := (chk_le _ _ _ _ _ _ hq).2.2
                          have hwk : IntKind.i64.wrap ((a1 : Int) + ((t.length - u.length : Nat) : Int)) = ((b.length - u.length : Nat) : Int) := by
                            have := HTN.out
                            rw [IntWalk.i64_in _ (by omega)]
                            omega
                          go_wp2_with fail
                          refine hEn.mono ?_
                          rintro e w1 ⟨rfl, rfl⟩
                          go_wp2_with fail
                          refine hCk.mono ?_
                          rintro e w1 ⟨rfl, L1, Af, cf, Ab, cb, Ap, cp, X9⟩
                          have BR := BW.below L1 (Nat.lt_succ_self _)
                          obtain ⟨j0, j1, j2, j3, f0, f1, f2, f3⟩ := BR.c4
                          obtain ⟨x0, x1, x2, x3, x4, x5, x6, x7, x8, g0, g1, g2, g3, g4, g5, g6, g7, g8⟩ := X9.blk.c9
                          go_wp2_with fail
                          have S0 : w1.cell? ⟨w.heap.size + 1, 0, none⟩ = some (.int .i64 x.st) ∧ w1.cell? ⟨w.heap.size + 1, 1, none⟩ = some (.slice Af x.f.length cf) ∧ w1.cell? ⟨w.heap.size + 1, 2, none⟩ = some (.slice Ab B9.length cb) ∧ w1.cell? ⟨w.heap.size + 1, 3, none⟩ = some (.slice Ap P9.length cp) ∧ w1.cell? ⟨w.heap.size + 1, 5, none⟩ = some (.bool x.close) := ⟨x0, x1, x2, x3, x5⟩
                          have hgg : ¬ w.heap.size = w.heap.size + 1 := by omega
                          have hgg2 : ¬ w.heap.size + 1 = w.heap.size := by omega
                          go_region_held3 (fun w' => w'.cell? ⟨w.heap.size + 1, 0, none⟩ = some (.int .i64 x.st) ∧ w'.cell? ⟨w.heap.size + 1, 1, none⟩ = some (.slice Af x.f.length cf) ∧ w'.cell? ⟨w.heap.size + 1, 2, none⟩ = some (.slice Ab B9.length cb) ∧ w'.cell? ⟨w.heap.size + 1, 3, none⟩ = some (.slice Ap P9.length cp) ∧ w'.cell? ⟨w.heap.size + 1, 5, none⟩ = some (.bool x.close)) (first | with_reducible exact S0 | go_keep) (fail)
                          go_wp2_with fail
                          exact r18_ret _ w.heap.size _ _ _ _ _ x.close ((b.length - u.length : Nat) : Int) 0 _ rfl rfl rfl rfl ((BR.put4 _ _ _ _).drew) (readP_ok (by rw [HR.out, HB2.out]; rfl) rfl (RsR.drew (X9.rs w.heap.size (Nat.lt_succ_self _) _ _ _ _)) (X9.rn (Nat.le_succ _)) (Below.drew (below_put4 (LB.trans (L1.mono (Nat.le_succ _))) (Nat.le_refl _) _ _ _ _)))
                    · go_wp2_with fail
                      refine hEn.mono ?_
                      rintro e w1 ⟨rfl, rfl⟩
                      go_wp2_with fail
                      have XC0 := XC.new X
                      have S0 : wr.cell? ⟨w.heap.size + 1, 0, none⟩ = some (.int .i64 x.st) ∧ wr.cell? ⟨w.heap.size + 1, 1, none⟩ = some (.slice Af x.f.length cf) ∧ wr.cell? ⟨w.heap.size + 1, 2, none⟩ = some (.slice none 0 0) ∧ wr.cell? ⟨w.heap.size + 1, 3, none⟩ = some (.slice none 0 0) ∧ wr.cell? ⟨w.heap.size + 1, 5, none⟩ = some (.bool x.close) := ⟨x0, x1, x2, x3, x5⟩
                      have hgg : ¬ w.heap.size = w.heap.size + 1 := by omega
                      have hgg2 : ¬ w.heap.size + 1 = w.heap.size := by omega
                      go_region_held3 (fun w' => w'.cell? ⟨w.heap.size + 1, 0, none⟩ = some (.int .i64 x.st) ∧ w'.cell? ⟨w.heap.size + 1, 1, none⟩ = some (.slice Af x.f.length cf) ∧ w'.cell? ⟨w.heap.size + 1, 2, none⟩ = some (.slice none 0 0) ∧ w'.cell? ⟨w.heap.size + 1, 3, none⟩ = some (.slice none 0 0) ∧ w'.cell? ⟨w.heap.size + 1, 5, none⟩ = some (.bool x.close)) (first | with_reducible exact S0 | go_keep) (fail)
                      go_wp2_with fail
                      exact r18_ret _ w.heap.size _ _ _ _ _ x.close (a1 : Int) 0 _ rfl rfl rfl rfl ((BW.put4 _ _ _ _).drew) (readP_ok (by rw [HR.out, HE3.out]; rfl) (by have := HA1.out; have := HTL.out; omega) (RsR.drew (XC0.rs w.heap.size (Nat.lt_succ_self _) _ _ _ _)) (XC0.rn (Nat.le_succ _)) (Below.drew (below_put4 LB (Nat.le_refl _) _ _ _ _)))
                · have HE3 := Lib.hid (HE2.out.trans (if_neg hs1))
                  have hLi := r18_line x s1 (w.heap.size + 1) (w.heap.size + 1) Af cf wr X hsl1 hs1 hf24 hgw
                  have h24 := line_24 x s1 hs1 hf24
                  have hq : (s1 == []) = false := by simpa using hs1
                  have hq2 : ¬ (s1.toArray = #[]) := by simpa using hs1
                  have hq3 : List.isEmpty s1 = false := by cases s1 with | nil => exact absurd rfl hs1 | cons c t => rfl
                  have HQ := Lib.hid hs1
                  unfold LineP at hLi
                  generalize lineL x s1 = L at *
                  obtain ⟨x', ok⟩ := L
                  dsimp only at h24 hLi
                  clear HE2 hs1
                  cases ok
                  · have HE4 := Lib.hid (HE3.out.trans (if_neg (by simp)))
                    clear HE3
                    go_wp2_with fail
                    refine hLi.mono ?_
                    rintro e w1 ⟨rfl, -, L1⟩
                    have B9 := BW.below L1 (Nat.lt_succ_self _)
                    obtain ⟨j0, j1, j2, j3, f0, f1, f2, f3⟩ := B9.c4
                    go_wp2_with fail
                    exact r18_ret _ w.heap.size _ _ _ _ _ false 0 8 _ rfl rfl rfl rfl (B9.put4 _ _ _ _) (readP_no (by rw [HR.out, HE4.out]; rfl) (below_put4 (LB.trans (L1.mono (Nat.le_succ _))) (Nat.le_refl _) _ _ _ _))
                  · have HE4 := Lib.hid (HE3.out.trans (if_pos rfl))
                    clear HE3
                    go_wp2_with fail
                    refine hLi.mono ?_
                    rintro e w1 ⟨rfl, ⟨Af', cf', X'⟩, L1⟩
                    have B9 := BW.below L1 (Nat.lt_succ_self _)
                    go_wp2_with fail
                    go_roundg m
                    case rel => exact ⟨a1, x', Af', cf', ha1b, by have := HA1.out; omega, rfl, Lib.hid (by rw [HE4.out, HA1.out, HT.out]), X', h24, B9, LB.trans (L1.mono (Nat.le_succ _))⟩
                    case measure => omega
              · have hcb := byte_ne' d 13 hd13
                rw [show ((13 : UInt8).toNat : Int) = 13 from rfl] at hcb
                have hcb2 : ¬ (d.toNat : Int) = 13 := by simpa using hcb
                have hcb3 : ((d.toNat : Int) != 13) = true := by rw [bne, hcb]; rfl
                have HE2 := Lib.hid (HE.out.trans (if_pos (by simp [hd13])))
                clear HE
                obtain ⟨j0, j1, j2, j3, f0, f1, f2, f3⟩ := BW.c4
                go_wp2_with fail
                exact r18_ret _ w.heap.size _ _ _ _ _ false 0 8 _ rfl rfl rfl rfl (BW.put4 _ _ _ _) (readP_no (by rw [HR.out, HE2.out]; rfl) (below_put4 LB (Nat.le_refl _) _ _ _ _))
        · have HK := Lib.hid (show k < b.length ∧ b[k]? ≠ some 10 by
            have h := HT.out.symm
            rw [Bool.and_eq_true] at h
            exact ⟨of_decide_eq_true h.1, of_decide_eq_true h.2⟩)
          clear HT
          have hw : IntKind.i64.wrap ((k : Int) + 1) = ((k + 1 : Nat) : Int) := by rw [IntWalk.i64_in _ (by omega)]; omega
          go_wp2_with fail
          go_round
          case rel => exact ⟨k + 1, by omega, HK.out.1, rfl, Lib.hid (by
            have h1 := HK.out.1
            have h2 := HK.out.2
            rw [show k + 1 - a = (k - a) + 1 by omega, List.take_add_one, List.mem_append]
            rintro (h | h)
            · exact H.out h
            · rw [List.getElem?_drop, show a + (k - a) = k by omega, Option.mem_toList] at h
              exact h2 h), trivial⟩
          case measure => simp only [intOf]; have := HK.out.1; omega
theorem r18_Read (A : Option Addr) (c : Nat) (b : Bs) (hd : Bool) (w : World) (hr : Rd w w.heap.size 1 A b.length (b.map bv)) (hc : b.length ≤ c) (hb : b.length ≤ 999999) :
    Calls Tryz.prog 16 #[.slice A b.length c, .bool hd] w (ReadPost w (readR hd b)) := (r18_ReadN A c b hd w hr hc hb).mono fun _ _ h => h.weak
end Go.Proofs.YtmjekdnfkgalbaaGreatDoor
