/- reply: how a response is written (plain); a line of it; whether it may be; its parts. -/
import Derived.Test.YtmjekdnfkgalbaaGreatDoorReP
import Derived.Test.YtmjekdnfkgalbaaGreatDoorFPl
import Derived.Test.YtmjekdnfkgalbaaGreatDoorEncK
import Derived.Deep.RegionHeld3
namespace Go.Proofs.YtmjekdnfkgalbaaGreatDoor
open Go.RowKit
set_option maxRecDepth 100000
set_option maxHeartbeats 4000000

def prtF (n : Nat) : Int → List Int → Option Int
  | last, [] => some last
  | last, a :: l => if a ≤ last ∨ (n : Int) < a then none else prtF n a l
def prtOk (n : Nat) (p : List Int) : Bool :=
  match prtF n 0 p with
  | none => false
  | some last => decide (p = []) || decide (last = (n : Int))
def stOk (r : Rs) : Bool := !(decide (r.st < 200) || decide (599 < r.st) || (decide (0 < r.b.length) && noBody r.st))
def fdOk (l : List Fd) : Bool := !(decide ((addL [] l 0).2.1 < l.length) || decide ((addL [] l 0).2.2 ≠ 0))
def ownOk (l : List Fd) : Bool := l.all fun f => !ownN f.1
/-- May a response be written? -/
def isOneL (r : Rs) : Bool := stOk r && (fdOk r.f && (ownOk r.f && prtOk r.b.length r.p))
def cutP (b : Bs) : Int → List Int → List Bs
  | _, [] => []
  | at_, a :: l => (b.take a.toNat).drop at_.toNat :: cutP b a l
def rfL (f : Fd) : Bs := f.1 ++ csB ++ f.2 ++ crlf
def rfsL (l : List Fd) : Bs := l.flatMap rfL
def chunkedR (r : Rs) (minor : Int) : Bool := decide (0 < r.p.length) && decide (0 < minor)
def startR (st : Int) : Bs := begB ++ digs 10 st.toNat ++ [32] ++ phraseL st ++ crlf
def codeR (r : Rs) (minor : Int) : Bs := if noBody r.st then [] else if chunkedR r minor then teS ++ crlf else clS ++ digs 10 r.b.length ++ crlf
def lastR (minor : Int) (close : Bool) : Bs := if close then ccS ++ crlf else if minor < 1 then ckS ++ crlf else []
def headR (r : Rs) (minor : Int) (close : Bool) : Bs := startR r.st ++ rfsL r.f ++ codeR r minor ++ lastR minor close ++ crlf
def bodyR (r : Rs) (head : Bool) (minor : Int) : Bs := if head || noBody r.st then [] else if chunkedR r minor then encL (cutP r.b 0 r.p) else r.b
def allR (r : Rs) (head : Bool) (minor : Int) (close : Bool) : Bs := headR r minor close ++ bodyR r head minor
/-- The bytes of a response, an error. -/
def encR (r : Rs) (head : Bool) (minor : Int) (close : Bool) : Bs × Int :=
  if isOneL r then (if 65536 < (allR r head minor close).length then ([], 9) else (allR r head minor close, 0)) else ([], 1)

/-! ## In memory -/
structure RsP where
  r : Rs
  af : Option Addr
  cf : Nat
  ab : Option Addr
  cb : Nat
  ap : Option Addr
  cp : Nat
abbrev rsW (x : RsP) : Value := .agg #[.int .i64 x.r.st, .slice x.af x.r.f.length x.cf, .slice x.ab x.r.b.length x.cb, .slice x.ap x.r.p.length x.cp]
/-- Its rows may be read. -/
structure RsR (w : World) (x : RsP) : Prop where
  rf : Rd w w.heap.size 2 x.af x.r.f.length (fcells x.r.f)
  rb : Rd w w.heap.size 1 x.ab x.r.b.length (x.r.b.map bv)
  rp : Rd w w.heap.size 1 x.ap x.r.p.length (x.r.p.map fun i => Value.int .i64 i)
  cf : x.r.f.length ≤ x.cf
  cb : x.r.b.length ≤ x.cb
  cp : x.r.p.length ≤ x.cp
theorem RsR.belowW {w w' : World} {x : RsP} (h : RsR w x) (hb : Below w.heap.size w w') : RsR w' x :=
  ⟨(h.rf.below hb).more hb.size, (h.rb.below hb).more hb.size, (h.rp.below hb).more hb.size, h.cf, h.cb, h.cp⟩
theorem rep_isOurs (s : Bs) (w : World) (hs : s.length ≤ 1000000) :
    Calls Tryz.prog 77 #[sv s] w fun e w' => e = .returned (.bool (ownN s)) ∧ Below w.heap.size w w' := by
  have h1 := fun w => asc_Same ⟨s.toArray⟩ ⟨teN.toArray⟩ w (by show s.length ≤ _; unfold maxLen; omega) (by decide)
  have h2 := fun w => asc_Same ⟨s.toArray⟩ ⟨clN.toArray⟩ w (by show s.length ≤ _; unfold maxLen; omega) (by decide)
  have h3 := fun w => asc_Same ⟨s.toArray⟩ ⟨coN.toArray⟩ w (by show s.length ≤ _; unfold maxLen; omega) (by decide)
  dsimp only at h1 h2 h3
  have HO := Lib.hid (show ownN s = ((lowL s == lowL teN) || (lowL s == lowL clN) || (lowL s == lowL coN)) from rfl)
  generalize (lowL s == lowL teN) = b1 at *
  generalize (lowL s == lowL clN) = b2 at *
  generalize (lowL s == lowL coN) = b3 at *
  generalize ownN s = o at *
  cases b1
  · cases b2
    · go_enter Tryz.func77, Tryz.ntmps77
      go_wp2_with fail
      refine (h1 _).mono ?_
      rintro e w1 ⟨rfl, L1⟩
      go_wp2_with fail
      refine (h2 _).mono ?_
      rintro e w2 ⟨rfl, L2⟩
      go_wp2_with fail
      refine (h3 _).mono ?_
      rintro e w3 ⟨rfl, L3⟩
      go_wp2
      go_ret
      exact ⟨by rw [HO.out]; rfl, stepW (stepW L1 L2) L3⟩
    · go_enter Tryz.func77, Tryz.ntmps77
      go_wp2_with fail
      refine (h1 _).mono ?_
      rintro e w1 ⟨rfl, L1⟩
      go_wp2_with fail
      refine (h2 _).mono ?_
      rintro e w2 ⟨rfl, L2⟩
      go_wp2
      go_ret
      exact ⟨by rw [HO.out]; rfl, stepW L1 L2⟩
  · go_enter Tryz.func77, Tryz.ntmps77
    go_wp2_with fail
    refine (h1 _).mono ?_
    rintro e w1 ⟨rfl, L1⟩
    go_wp2
    go_ret
    exact ⟨by rw [HO.out]; rfl, L1⟩
end Go.Proofs.YtmjekdnfkgalbaaGreatDoor
