/- Part 34 of the proof: VwS VhC VhA VyB Vy VyC. -/
import Derived.Test.YtdmondfpepbniaaGreatDoorQ29
namespace Go.Proofs.YtdmondfpepbniaaGreatDoor
open Go.RowKit
set_option maxRecDepth 100000
set_option maxHeartbeats 4000000
set_option linter.all false
theorem Zl (A:Option Addr) (n c:Nat) (f:Value) (w:World) (hn:n<= 1):
 Calls Tryz.prog 221 #[.slice A n c,.int .i64 0,.int .i64 (n:Int),f] w fun e w'=>e= .returned (.tuple #[])/\ w=w':=by
 have d1:decide ((1:Int)< (n:Int))=false:=by simp;omega
 have d2: ¬(1:Int)< (n:Int):=by omega
 go_enter Tryz.func221,Tryz.ntmps221
 go_wp2_with fail
 go_loopw [8] (fun i wr=>i= .int .i64 1/\ w=wr) (fun _ _=>0)
 case atStart=>exact⟨rfl,rfl⟩
 case round=>
  obtain⟨rfl,rfl⟩:=hrel;go_wp2_with fail
  go_end0
  exact⟨rfl,rfl⟩
theorem Zm (A:Option Addr) (n c:Nat) (k:Int) (f:Value) (w:World) (hn:n<= 1):
 Calls Tryz.prog 181 #[.slice A n c,.int .i64 0,.int .i64 (n:Int),.int .i64 k,f] w fun e w'=>e= .returned (.tuple #[])/\ w=w':=by
 have hI:=Zl A n c f w hn;have d1:(n:Int)<= 12:=by omega
 go_enter Tryz.func181,Tryz.ntmps181
 go_wp2_with fail
 go_loopw [1,2] (fun a b wr=>a= .int .i64 0/\ b= .int .i64 (n:Int)/\ w=wr) (fun _ _ _=>0)
 case atStart=>exact⟨rfl,rfl,rfl⟩
 case round=>
  obtain⟨rfl,rfl,rfl⟩:=hrel;go_wp2_with fail
  refine hI.mono ?_;rintro e w1 ⟨rfl,rfl⟩;go_wp2_with fail
  refine bodyPost_ret (results_none rfl _ _ _) rfl ?_;exact⟨rfl,rfl⟩
theorem Xj (A:Option Addr) (n c:Nat) (f:Value) (w:World) (hn:n<= 1):
 Calls Tryz.prog 119 #[.slice A n c,f] w fun e w'=>e= .returned (.tuple #[])/\ w=w':=by
 have hP:=fun k=>Zm A n c k f w hn
 have hL:=Tryz.bits_Len (n:Int) w (by omega) (by omega)
 go_enter Tryz.func119,Tryz.ntmps119
 go_wp2_with fail
 refine hL.mono ?_;rintro e w1 ⟨rfl,rfl⟩;go_wp2_with fail
 refine(hP _).mono ?_;rintro e w1 ⟨rfl,rfl⟩;go_wp2_with fail
 go_end0
 exact⟨rfl,rfl⟩
theorem EX (w:World) (t:Nat-> Nat) (m g:Nat) (cf:Cf) (tv:Value) (gs:Nat) (c:CnS) (h:dK w t m g cf tv gs c) (hpc:c.q.pcs.length<= 100000) (hq:c.ended=false-> c.ending=false-> c.ring.length<256/\ c.q.pcs.length<cf.pipe):
 Calls Tryz.prog 137 #[pV g] w fun e w'=>e= .returned (.tuple #[.bool (lZ cf c),.bool (jU c)])/\ Below w.heap.size w w':=by
 obtain⟨gq,gr,gp,bw,h⟩:=h;have hS:=Lib.hid (show lZ cf c=(!c.closed&& (!c.ended&& (c.ending|| (decide (c.ring.length<256)&&decide (c.q.pcs.length<cf.pipe)))))from rfl)
 have hW:=Lib.hid (show jU c=(!c.closed&&decide (0<c.q.b.length))from rfl)
 have j0:w.cell? ⟨g,0,none⟩=some (pV gq):=h.b.b.cell 0;have j3:w.cell? ⟨g,3,none⟩=some (nV cf.pipe):=h.b.b.cell 3;have j18:w.cell? ⟨g,18,none⟩=some (pV gr):=h.b.b.cell 18;have j25:w.cell? ⟨g,25,none⟩=some (.bool c.ending):=h.b.b.cell 25;have j26:w.cell? ⟨g,26,none⟩=some (.bool c.ended):=h.b.b.cell 26;have j27:w.cell? ⟨g,27,none⟩=some (.bool c.closed):=h.b.b.cell 27;have hQ:=fun W (L:Below w.heap.size w W)=>JF W t (m+1) gq c.q (h.q.keep (Stp.below L (fun _=>False) t) id id id) hpc
 have hL:=fun W (L:Below w.heap.size w W)=>rQ W t (m+1) gq c.q (h.q.keep (Stp.below L (fun _=>False) t) id id id)
 have hR:=fun W (L:Below w.heap.size w W)=>Bl W t (m+8) gr c.ring (h.r.keep (Stp.below L (fun _=>False) t) id id)
 have lg:g<w.heap.size:=h.b.lt;have hr256:c.ring.length<= 256:=by obtain⟨v,f,buf,hb⟩:=h.r;exact hb.2.2.2.2.1
 clear h;have hcl: ∀W,Below w.heap.size w W-> Below w.heap.size w W/\ W.cell? ⟨g,0,none⟩=some (pV gq)/\ W.cell? ⟨g,3,none⟩=some (nV cf.pipe)/\ W.cell? ⟨g,18,none⟩=some (pV gr)/\ W.cell? ⟨g,25,none⟩=some (.bool c.ending)/\ W.cell? ⟨g,26,none⟩=some (.bool c.ended):=fun W L=>
  ⟨L,(L.cell (p:=⟨g,0,none⟩) lg).trans j0,(L.cell (p:=⟨g,3,none⟩) lg).trans j3,(L.cell (p:=⟨g,18,none⟩) lg).trans j18,(L.cell (p:=⟨g,25,none⟩) lg).trans j25,(L.cell (p:=⟨g,26,none⟩) lg).trans j26⟩
 go_enter Tryz.func137,Tryz.ntmps137
 cases hc:c.closed
 rotate_left
 ·rw[hc]at j27
  go_wp2_with fail
  go_ret2
  exact⟨by rw[hS.out,hW.out,hc];rfl,Below.refl _ _⟩
 ·rw[hc]at j27
  go_upto_region 3 with(fail)
  cases hd:c.ended
  rotate_left
  ·rw[hd]at j26
   go_quiet (fail)
   have LN:Below w.heap.size w (w.drewN nq):=Below.drewN (Below.refl _ _) _;go_wp2_with fail
   refine(hL _ LN).mono ?_;rintro e w8 ⟨rfl,rfl⟩;go_wp2_with fail
   go_ret2
   exact⟨by rw[hS.out,hW.out,hc,hd];simp,LN⟩
  ·rw[hd]at j26 hcl
   cases he:c.ending
   rotate_left
   ·rw[he]at j25
    go_quiet (fail)
    have LN:Below w.heap.size w (w.drewN nq):=Below.drewN (Below.refl _ _) _;go_wp2_with fail
    refine(hL _ LN).mono ?_;rintro e w8 ⟨rfl,rfl⟩;go_wp2_with fail
    go_ret2
    exact⟨by rw[hS.out,hW.out,hc,hd,he];simp,LN⟩
   ·rw[he]at j25 hcl
    obtain⟨hr1,hp1⟩:=hq hd he;have S0:=hcl w (Below.refl _ _);have Sd:=hcl w.drew (Below.refl _ _).drew;have hr2:(0:Int)< ((256-c.ring.length:Nat):Int):=by omega
    have hp2:(c.q.pcs.length:Int)< (cf.pipe:Int):=by omega
    have HR:=Lib.hid (show decide (c.ring.length<256)=true from decide_eq_true hr1)
    have HP:=Lib.hid (show decide (c.q.pcs.length<cf.pipe)=true from decide_eq_true hp1)
    have hr3:0<256-c.ring.length:=by omega
    clear hq hp1;go_region_held3 (fun W=>Below w.heap.size w W/\ W.cell? ⟨g,0,none⟩=some (pV gq)/\ W.cell? ⟨g,3,none⟩=some (nV cf.pipe)/\ W.cell? ⟨g,18,none⟩=some (pV gr)/\ W.cell? ⟨g,25,none⟩=some (.bool false)/\ W.cell? ⟨g,26,none⟩=some (.bool false))
     (first|exact S0|exact Sd|exact X4|exact X6|go_keep)
     (first
       | (go_at_call 149
          refine(hR _ Sd.1).mono ?_;rintro e w4 ⟨rfl,L4⟩
          have X4:=hcl w4 (stepW Sd.1 L4))
       | (go_at_call 188
          refine(hQ _ X4.1).mono ?_;rintro e w6 ⟨A6,c6,rfl,L6⟩
          have X6:=hcl w6 (stepW X4.1 L6)))
    obtain⟨x0,x1,x2,x3,x4,x5⟩:=X6;go_wp2_with fail
    refine(hL _ x0).mono ?_;rintro e w8 ⟨rfl,rfl⟩;go_wp2_with fail
    go_ret2
    exact⟨by rw[hS.out,hW.out,hc,hd,he,HR.out,HP.out];simp,x0⟩
def deadV (o:Option Nat):Value:=match o with|some d=>.tuple #[nV d,.bool true]|none=>.tuple #[nV 0,.bool false]
theorem H8 (w:World) (t:Nat-> Nat) (m g:Nat) (cf:Cf) (tv:Value) (gs:Nat) (c:CnS) (h:dK w t m g cf tv gs c) (hp:c.closed=false-> c.phase<= 4) (hz:cf.jR=0) (hb:c.since<= 1000000/\ cf.idle<= 1000000/\ cf.head<= 1000000/\ cf.body<= 1000000/\ cf.write<= 1000000/\ cf.bC<= 1000000):
 Calls Tryz.prog 123 #[pV g] w fun e w'=>e= .returned (deadV (Ce cf c))/\ Below w.heap.size w w':=by
 obtain⟨gq,gr,gp,bw,h⟩:=h;have j5:w.cell? ⟨g,5,none⟩=some (nV cf.idle):=h.b.b.cell 5;have j6:w.cell? ⟨g,6,none⟩=some (nV cf.head):=h.b.b.cell 6;have j7:w.cell? ⟨g,7,none⟩=some (nV cf.body):=h.b.b.cell 7;have j8:w.cell? ⟨g,8,none⟩=some (nV cf.write):=h.b.b.cell 8;have j9:w.cell? ⟨g,9,none⟩=some (nV cf.bC):=h.b.b.cell 9;have j10:w.cell? ⟨g,10,none⟩=some (nV cf.jR):=h.b.b.cell 10;have j20:w.cell? ⟨g,20,none⟩=some (nV c.phase):=h.b.b.cell 20;have j21:w.cell? ⟨g,21,none⟩=some (nV c.since):=h.b.b.cell 21;have j27:w.cell? ⟨g,27,none⟩=some (.bool c.closed):=h.b.b.cell 27;rw[hz]at j10;have hS:=Lib.hid (show Ce cf c=if c.closed then none else some (c.since+(match c.phase with|0=>cf.idle|1=>cf.head|2=>cf.body|3=>cf.write|_=>cf.bC))from rfl)
 have lg:g<w.heap.size:=h.b.lt;clear h;go_enter Tryz.func123,Tryz.ntmps123
 cases hc:c.closed
 rotate_left
 ·rw[hc]at j27
  go_wp2_with fail
  go_ret2
  exact⟨by rw[hS.out,hc];rfl,Below.refl _ _⟩
 ·rw[hc]at j27
  have hp:=hp hc;obtain⟨b1,b2,b3,b4,b5,b6⟩:=hb;obtain⟨dl,hdl⟩: ∃dl,dl=(match c.phase with|0=>cf.idle|1=>cf.head|2=>cf.body|3=>cf.write|_=>cf.bC):=⟨_,rfl⟩
  have he:(#[nV cf.idle,nV cf.head,nV cf.body,nV cf.write,nV cf.bC]:Array Value)[c.phase]? = some (nV dl)/\ dl<= 1000000:=by
   rcases(show c.phase=0\/ c.phase=1\/ c.phase=2\/ c.phase=3\/ c.phase=4 by omega)with hq|hq|hq|hq|hq<;>rw[hq]at hdl⊢ <;>rw[hdl]<;>exact⟨rfl,by assumption⟩
  rw[<- hdl]at hS;obtain⟨ph,hph⟩: ∃ph,ph=c.phase:=⟨_,rfl⟩;rw[<- hph]at he hp j20;obtain⟨he,hd6⟩:=he;have hp5:(ph:Int)<5:=by omega
  clear hdl hph b2 b3 b4 b5 b6 hp;have LV:Below w.heap.size w (w.alloc (.cells #[nV cf.idle,nV cf.head,nV cf.body,nV cf.write,nV cf.bC] 3)).drew:=(aj (Below.refl _ _) _).drew;go_upto_region 3 with(fail)
  refine wp_region_noPanic ?_
  refine wp_region_held_drew (S := (fun w' => Below w.heap.size w w'/\ w'.cell? ⟨g,5,none⟩=some (nV cf.idle)/\ w'.cell? ⟨g,6,none⟩=some (nV cf.head)/\ w'.cell? ⟨g,7,none⟩=some (nV cf.body)/\ w'.cell? ⟨g,8,none⟩=some (nV cf.write)/\ w'.cell? ⟨g,9,none⟩=some (nV cf.bC)/\ w'.cell? ⟨g,20,none⟩=some (nV ph)/\ w'.cell? ⟨g,21,none⟩=some (nV c.since))) (by kernel_rfl) ⟨(Below.refl _ _).drew,j5,j6,j7,j8,j9,j20,j21⟩ (fun hHeld => ?_)
  refine wpAnyH_take (i:=0) (v:=?_) rfl (by kernel_rfl) (by kernel_rfl) (by kernel_rfl) (fun _ _ _ h=>h) (Or.inl ⟨by rfl,?_⟩) (by assumption) ?_;rotate_left
  ·intro w9 hSw;(try dsimp only at hSw);go_simp<;>with_reducible rfl
  (try simp only[Act.put,List.setIfInBounds_toArray])
  refine wpAnyH_take (i:=1) (v:=?_) rfl (by kernel_rfl) (by kernel_rfl) (by kernel_rfl) (fun _ _ _ h=>h) (Or.inl ⟨by rfl,?_⟩) (by assumption) ?_;rotate_left
  ·intro w9 hSw;(try dsimp only at hSw);go_simp<;>with_reducible rfl
  (try simp only[Act.put,List.setIfInBounds_toArray])
  refine wpAnyH_take (i:=2) (v:=?_) rfl (by kernel_rfl) (by kernel_rfl) (by kernel_rfl) (fun _ _ _ h=>h) (Or.inl ⟨by rfl,?_⟩) (by assumption) ?_;rotate_left
  ·intro w9 hSw;(try dsimp only at hSw);go_simp<;>with_reducible rfl
  (try simp only[Act.put,List.setIfInBounds_toArray])
  refine wpAnyH_take (i:=3) (v:=?_) rfl (by kernel_rfl) (by kernel_rfl) (by kernel_rfl) (fun _ _ _ h=>h) (Or.inl ⟨by rfl,?_⟩) (by assumption) ?_;rotate_left
  ·intro w9 hSw;(try dsimp only at hSw);go_simp<;>with_reducible rfl
  (try simp only[Act.put,List.setIfInBounds_toArray])
  refine wpAnyH_take (i:=4) (v:=?_) rfl (by kernel_rfl) (by kernel_rfl) (by kernel_rfl) (fun _ _ _ h=>h) (Or.inl ⟨by rfl,?_⟩) (by assumption) ?_;rotate_left
  ·intro w9 hSw;(try dsimp only at hSw);go_simp<;>with_reducible rfl
  (try simp only[Act.put,List.setIfInBounds_toArray])
  refine wpAnyH_take (i:=5) (v:=?_) rfl (by kernel_rfl) (by kernel_rfl) (by kernel_rfl) (fun _ _ _ h=>h) (Or.inl ⟨by rfl,?_⟩) (by assumption) ?_;rotate_left
  ·intro w9 hSw;(try dsimp only at hSw);go_simp<;>with_reducible rfl
  (try simp only[Act.put,List.setIfInBounds_toArray])
  refine wpAnyH_take (i:=6) (v:=?_) rfl (by kernel_rfl) (by kernel_rfl) (by kernel_rfl) (fun _ _ _ h=>h) (Or.inl ⟨by rfl,?_⟩) (by assumption) ?_;rotate_left
  ·intro w9 hSw;(try dsimp only at hSw);go_simp<;>with_reducible rfl
  (try simp only[Act.put,List.setIfInBounds_toArray])
  refine wpAnyH_take (i:=7) (v:=?_) rfl (by kernel_rfl) (by kernel_rfl) (by kernel_rfl) (fun _ _ _ h=>h) (Or.inl ⟨by rfl,?_⟩) (by assumption) ?_;rotate_left
  ·intro w9 hSw;(try dsimp only at hSw);go_simp<;>with_reducible rfl
  (try simp only[Act.put,List.setIfInBounds_toArray])
  refine wpAnyH_take (i:=8) (v:=?_) rfl (by kernel_rfl) (by kernel_rfl) (by kernel_rfl) (fun _ _ _ h=>h) (Or.inl ⟨by rfl,?_⟩) (by assumption) ?_;rotate_left
  ·intro w9 hSw;(try dsimp only at hSw);go_simp<;>with_reducible rfl
  (try simp only[Act.put,List.setIfInBounds_toArray])
  refine wpAnyH_take (i:=9) (v:=?_) rfl (by kernel_rfl) (by kernel_rfl) (by kernel_rfl) (fun _ _ _ h=>h) (Or.inl ⟨by rfl,?_⟩) (by assumption) ?_;rotate_left
  ·intro w9 hSw;(try dsimp only at hSw);go_simp<;>with_reducible rfl
  (try simp only[Act.put,List.setIfInBounds_toArray])
  refine wpAnyH_take (i:=10) (v:=?_) rfl (by kernel_rfl) (by kernel_rfl) (by kernel_rfl) (fun _ _ _ h=>h) (Or.inl ⟨by rfl,?_⟩) (by assumption) ?_;rotate_left
  ·intro w9 hSw;(try dsimp only at hSw);go_simp<;>with_reducible rfl
  (try simp only[Act.put,List.setIfInBounds_toArray])
  refine wpAnyH_take (i:=11) (v:=?_) rfl (by kernel_rfl) (by kernel_rfl) (by kernel_rfl) (fun _ _ _ h=>h) (Or.inl ⟨by rfl,?_⟩) (by assumption) ?_;rotate_left
  ·intro w9 hSw;(try dsimp only at hSw);go_simp<;>with_reducible rfl
  (try simp only[Act.put,List.setIfInBounds_toArray])
  refine wpAnyH_take (i:=12) (v:=?_) rfl (by kernel_rfl) (by kernel_rfl) (by kernel_rfl) (fun _ _ _ h=>h) (Or.inl ⟨by rfl,?_⟩) (by assumption) ?_;rotate_left
  ·intro w9 hSw;(try dsimp only at hSw);go_simp<;>with_reducible rfl
  (try simp only[Act.put,List.setIfInBounds_toArray])
  refine wpAnyH_take (i:=13) (v:=?_) rfl (by kernel_rfl) (by kernel_rfl) (by kernel_rfl) (fun _ _ _ h=>h) (Or.inl ⟨by rfl,?_⟩) (by assumption) ?_;rotate_left
  ·intro w9 hSw;(try dsimp only at hSw);go_simp<;>with_reducible rfl
  (try simp only[Act.put,List.setIfInBounds_toArray])
  refine wpAnyH_take (i:=14) (v:=?_) rfl (by kernel_rfl) (by kernel_rfl) (by kernel_rfl) (fun _ _ _ h=>h) (Or.inl ⟨by rfl,?_⟩) (by assumption) ?_;rotate_left
  ·intro w9 hSw;(try dsimp only at hSw);go_simp<;>with_reducible rfl
  (try simp only[Act.put,List.setIfInBounds_toArray])
  refine wpAnyH_take (i:=15) (v:=?_) rfl (by kernel_rfl) (by kernel_rfl) (by kernel_rfl) (fun _ _ _ h=>h) (Or.inl ⟨by rfl,?_⟩) (by assumption) ?_;rotate_left
  ·intro w9 hSw;(try dsimp only at hSw);go_simp<;>with_reducible rfl
  (try simp only[Act.put,List.setIfInBounds_toArray])
  refine wpAnyH_take (i:=16) (v:=?_) rfl (by kernel_rfl) (by kernel_rfl) (by kernel_rfl) (fun _ _ _ h=>h) (Or.inl ⟨by rfl,?_⟩) (by assumption) ?_;rotate_left
  ·intro w9 hSw;(try dsimp only at hSw);go_simp<;>with_reducible rfl
  (try simp only[Act.put,List.setIfInBounds_toArray])
  refine wpAnyH_take (i:=17) (v:=?_) rfl (by kernel_rfl) (by kernel_rfl) (by kernel_rfl) (fun _ _ _ h=>h) (Or.inl ⟨by rfl,?_⟩) (by assumption) ?_;rotate_left
  ·intro w9 hSw;(try dsimp only at hSw);go_simp<;>with_reducible rfl
  (try simp only[Act.put,List.setIfInBounds_toArray])
  refine wpAnyH_take (i:=18) (v:=?_) rfl (by kernel_rfl) (by kernel_rfl) (by kernel_rfl) (fun _ _ _ h=>h) (Or.inl ⟨by rfl,?_⟩) (by assumption) ?_;rotate_left
  ·intro w9 hSw;(try dsimp only at hSw);go_simp<;>with_reducible rfl
  (try simp only[Act.put,List.setIfInBounds_toArray])
  refine wpAnyH_take (i:=19) (v:=?_) rfl (by kernel_rfl) (by kernel_rfl) (by kernel_rfl) (fun _ _ _ h=>h) (Or.inl ⟨by rfl,?_⟩) (by assumption) ?_;rotate_left
  ·intro w9 hSw;(try dsimp only at hSw);go_simp<;>with_reducible rfl
  (try simp only[Act.put,List.setIfInBounds_toArray])
  refine wpAnyH_take (i:=20) (v:=?_) rfl (by kernel_rfl) (by kernel_rfl) (by kernel_rfl) (fun _ _ _ h=>h) (Or.inl ⟨by rfl,?_⟩) (by assumption) ?_;rotate_left
  ·intro w9 hSw;(try dsimp only at hSw);go_simp<;>with_reducible rfl
  (try simp only[Act.put,List.setIfInBounds_toArray])
  refine wpAnyH_take (i:=21) (v:=?_) rfl (by kernel_rfl) (by kernel_rfl) (by kernel_rfl) (fun _ _ _ h=>h) (Or.inl ⟨by rfl,?_⟩) (by assumption) ?_;rotate_left
  ·intro w9 hSw;(try dsimp only at hSw);go_simp<;>with_reducible rfl
  (try simp only[Act.put,List.setIfInBounds_toArray])
  refine wpAnyH_take (i:=22) (v:=?_) rfl (by kernel_rfl) (by kernel_rfl) (by kernel_rfl) (fun _ _ _ h=>h) (Or.inl ⟨by rfl,?_⟩) (by assumption) ?_;rotate_left
  ·intro w9 hSw;(try dsimp only at hSw);go_simp<;>with_reducible rfl
  (try simp only[Act.put,List.setIfInBounds_toArray])
  refine wpAnyH_take (i:=23) (v:=?_) rfl (by kernel_rfl) (by kernel_rfl) (by kernel_rfl) (fun _ _ _ h=>h) (Or.inl ⟨by rfl,?_⟩) (by assumption) ?_;rotate_left
  ·intro w9 hSw;(try dsimp only at hSw);go_simp<;>with_reducible rfl
  (try simp only[Act.put,List.setIfInBounds_toArray])
  refine wpAnyH_take (i:=24) (v:=?_) rfl (by kernel_rfl) (by kernel_rfl) (by kernel_rfl) (fun _ _ _ h=>h) (Or.inl ⟨by rfl,?_⟩) (by assumption) ?_;rotate_left
  ·intro w9 hSw;(try dsimp only at hSw);go_simp<;>with_reducible rfl
  (try simp only[Act.put,List.setIfInBounds_toArray])
  refine wpAnyH_take (i:=25) (v:=?_) rfl (by kernel_rfl) (by kernel_rfl) (by kernel_rfl) (fun _ _ _ h=>h) (Or.inl ⟨by rfl,?_⟩) (by assumption) ?_;rotate_left
  ·intro w9 hSw;(try dsimp only at hSw);go_simp<;>with_reducible rfl
  (try simp only[Act.put,List.setIfInBounds_toArray])
  refine wpAnyH_take (i:=26) (v:=?_) rfl (by kernel_rfl) (by kernel_rfl) (by kernel_rfl) (fun _ _ _ h=>h) (Or.inl ⟨by rfl,?_⟩) (by assumption) ?_;rotate_left
  ·intro w9 hSw;(try dsimp only at hSw);go_simp<;>with_reducible rfl
  (try simp only[Act.put,List.setIfInBounds_toArray])
  refine wpAnyH_take (i:=27) (v:=?_) rfl (by kernel_rfl) (by kernel_rfl) (by kernel_rfl) (fun _ _ _ h=>h) (Or.inl ⟨by rfl,?_⟩) (by assumption) ?_;rotate_left
  ·intro w9 hSw;(try dsimp only at hSw);go_simp<;>with_reducible rfl
  (try simp only[Act.put,List.setIfInBounds_toArray])
  refine wpAnyH_take (i:=28) (v:=?_) rfl (by kernel_rfl) (by kernel_rfl) (by kernel_rfl) (fun _ _ _ h=>h) (Or.inl ⟨by rfl,?_⟩) (by assumption) ?_;rotate_left
  ·intro w9 hSw;(try dsimp only at hSw);go_simp<;>with_reducible rfl
  (try simp only[Act.put,List.setIfInBounds_toArray])
  refine wpAnyH_take (i:=30) (v:=?_) rfl (by kernel_rfl) (by kernel_rfl) (by kernel_rfl) (fun _ _ _ h=>h) (Or.inl ⟨by rfl,?_⟩) (by assumption) ?_;rotate_left
  ·intro w9 hSw;(try dsimp only at hSw);go_simp<;>with_reducible rfl
  (try simp only[Act.put,List.setIfInBounds_toArray])
  refine wpAnyH_take (i:=31) (v:=?_) rfl (by kernel_rfl) (by kernel_rfl) (by kernel_rfl) (fun _ _ _ h=>h) (Or.inl ⟨by rfl,?_⟩) (by assumption) ?_;rotate_left
  ·intro w9 hSw;(try dsimp only at hSw);go_simp<;>with_reducible rfl
  (try simp only[Act.put,List.setIfInBounds_toArray])
  refine wpAnyH_take (i:=32) (v:=?_) rfl (by kernel_rfl) (by kernel_rfl) (by kernel_rfl) (fun _ _ _ h=>h) (Or.inl ⟨by rfl,?_⟩) (by assumption) ?_;rotate_left
  ·intro w9 hSw;(try dsimp only at hSw);go_simp<;>with_reducible rfl
  (try simp only[Act.put,List.setIfInBounds_toArray])
  refine wpAnyH_take (i:=33) (v:=?_) rfl (by kernel_rfl) (by kernel_rfl) (by kernel_rfl) (fun _ _ _ h=>h) (Or.inl ⟨by rfl,?_⟩) (by assumption) ?_;rotate_left
  ·intro w9 hSw;(try dsimp only at hSw);go_simp<;>with_reducible rfl
  (try simp only[Act.put,List.setIfInBounds_toArray])
  refine wpAnyH_ready (rs := [29]) (by kernel_rfl) (by simp) ?_
  refine AllReadyH.cons rfl (fun K9 hK9 => ?_) AllReadyH.nil
  go_simp
  refine hK9.out _ _ (by go_keep) (fun hHeld => ?_)
  clear hK9 K9
  (try simp only [Act.put,List.setIfInBounds_toArray,List.set_cons_zero,List.set_cons_succ])
  refine wpAnyH_take (i:=34) (v:=?_) rfl (by kernel_rfl) (by kernel_rfl) (by kernel_rfl) (fun _ _ _ h=>h) (Or.inl ⟨by rfl,?_⟩) (by assumption) ?_;rotate_left
  ·intro w9 hSw;(try dsimp only at hSw);go_simp<;>with_reducible rfl
  (try simp only[Act.put,List.setIfInBounds_toArray])
  refine wpAnyH_ready (rs := [35]) (by kernel_rfl) (by simp) ?_
  refine AllReadyH.cons rfl (fun K9 hK9 => ?_) AllReadyH.nil
  go_simp
  refine hK9.out _ _ (by assumption) (fun hHeld => ?_)
  clear hK9 K9
  (try simp only [Act.put,List.setIfInBounds_toArray,List.set_cons_zero,List.set_cons_succ])
  refine wpAnyH_take (i:=36) (v:=?_) rfl (by kernel_rfl) (by kernel_rfl) (by kernel_rfl) (fun _ _ _ h=>h) (Or.inl ⟨by rfl,?_⟩) (by assumption) ?_;rotate_left
  ·intro w9 hSw;(try dsimp only at hSw);go_simp<;>with_reducible rfl
  (try simp only[Act.put,List.setIfInBounds_toArray])
  refine wpAnyH_take (i:=37) (v:=?_) rfl (by kernel_rfl) (by kernel_rfl) (by kernel_rfl) (fun _ _ _ h=>h) (Or.inl ⟨by rfl,?_⟩) (by assumption) ?_;rotate_left
  ·intro w9 hSw;(try dsimp only at hSw);go_simp<;>with_reducible rfl
  (try simp only[Act.put,List.setIfInBounds_toArray])
  refine wpAnyH_done (by kernel_rfl) ?_ _
  refine NoPanic.normal ?_
  have hwr:IntKind.i64.wrap ((c.since:Int)+(dl:Int))=(c.since:Int)+(dl:Int):=IntWalk.i64_in _ ⟨by omega,by omega⟩
  rw[hwr];obtain⟨X,hX⟩: ∃X,X=(w.alloc (.cells #[nV cf.idle,nV cf.head,nV cf.body,nV cf.write,nV cf.bC] 3)).drew:=⟨_,rfl⟩;rw[<- hX]at LV⊢;clear hX;have x10:=(LV.cell (p:=⟨g,10,none⟩) lg).trans j10;have x20:=(LV.cell (p:=⟨g,20,none⟩) lg).trans j20;have HC:=Lib.hid hc;clear j5 j6 j7 j8 j9 j10 j20 j21 j27 he hwr hc;by_cases h2:ph=2
  ·have d2:((ph:Int)==2)=true:=by rw[h2];rfl
   clear h2;go_wp2_with fail
   go_ret2
   exact⟨by rw[hS.out,HC.out];rfl,LV⟩
  ·have d2:((ph:Int)==2)=false:=beq_false_of_ne (by omega)
   clear h2;go_wp2_with fail
   go_ret2
   exact⟨by rw[hS.out,HC.out];rfl,LV⟩
theorem Nv:(Tryz.prog.info? 99).map (fun i=>(i.zero,i.size,i.bytes))=some (some (.agg #[.string ⟨#[]⟩,.string ⟨#[]⟩,.string ⟨#[]⟩]),3,48):=by kernel_rfl
theorem RT.empty (w:World) (t:Nat-> Nat) (τ:Nat) (e:TypeId) (size:Nat):RT (w.alloc (.cells #[] e)) (upT t w τ) τ e size (.slice (some ⟨w.heap.size,0,none⟩) 0 0) 0 []:=
 ⟨by simp,.inr ⟨w.heap.size,0,0,#[],(0,0),rfl,iO (Nat.le_refl _),heap_alloc_new w _,.inl (Nat.le_refl _),Nat.le_refl _,Nat.zero_le _,by simp,by simp⟩⟩
theorem EY (w:World) (t:Nat-> Nat) (τ g o n c:Nat) (xs:List Value) (hr:Rd w w.heap.size 3 (some ⟨g,o,none⟩) n xs) (h1: ∀u∈xs,u.oneCell'=true) (hn:n<= 1000):
 Calls Tryz.prog 61 #[.slice (some ⟨g,o,none⟩) n c] w fun e w'=> ∃v,e= .returned v/\ ∃t',RT w' t' τ 99 3 v n xs/\ Stp (fun _=>False) w t w' t':=by
 have he: ∀w:World,(binOp BinOp.eql 23 (.slice (some ⟨g,o,none⟩) n c) (.slice none 0 0)).run Tryz.prog w= .ok (.bool false) w:=fun w=>by rfl
 obtain⟨τ',hτ,hfr⟩:=dW w t;have hE:=RT.empty w t τ' 99 3;have s0:=Stp.alloc w t (fun x=>x=τ') (.cells #[] 99) τ'
 have hS:=Src.fB (P:=Tryz.prog) (c:=c) ((hr.ah (Nat.le_refl _) (aj (Below.refl w.heap.size w) (.cells #[] 99)))) h1;go_enter Tryz.func61,Tryz.ntmps61
 go_wp2_with (at_builtin;go_must (refine xw rfl (.tmp 5) (.tmp 6) 23 23 rfl 99 _ 3 48 Tryz.underlying23 (.inl Tryz.underlying23) Nv rfl (upT t w τ') τ' (.slice (some ⟨w.heap.size,0,none⟩) 0 0) 0 [] rfl hE (.slice (some ⟨g,o,none⟩) n c) n xs rfl hS (by omega) ?_;intro v' w5 t5 hr5 hs5;go_frame))
 go_ret
 have sF:=s0.trans (hs5 (fun x=>x=τ') rfl) fun _ h=>h
 obtain⟨h6,s6⟩:=hr5.fresh sF hfr τ;exact⟨_,rfl,_,by simpa using h6,s6⟩
structure EnOk (x:En):Prop where
 p0:x.path.length<= 200
 p1:Iz (oz x.path)= .tuple #[sv x.path,.bool true]
 p2:Lib.hasSuffix x.path [47,42]=false
 k0:x.kind.length<= 100
 k1:x.kind≠[]
 k2:wZ x.kind=true
 k3:bf x.kind=x.kind
 d0:x.data.length<= 2048
theorem JZ (w:World) (x:En) (h:EnOk x) (hml:ML w):
 Calls Tryz.prog 110 #[.agg #[sv x.path,sv x.kind,sv x.data]] w fun e w'=>e= .returned (.bool true)/\ Below w.heap.size w w':=by
 obtain⟨s1,hs1⟩: ∃s:ByteArray,s=⟨x.path.toArray⟩:=⟨_,rfl⟩;obtain⟨s2,hs2⟩: ∃s:ByteArray,s=⟨x.kind.toArray⟩:=⟨_,rfl⟩;obtain⟨s3,hs3⟩: ∃s:ByteArray,s=⟨x.data.toArray⟩:=⟨_,rfl⟩;have e1:sv x.path= .string s1:=by rw[hs1]
 have e2:sv x.kind= .string s2:=by rw[hs2]
 have e3:sv x.data= .string s3:=by rw[hs3]
 have l1:s1.data.toList=x.path:=by rw[hs1]
 have l2:s2.data.toList=x.kind:=by rw[hs2]
 have z1:s1.size<= 200:=by rw[<- au,l1];exact h.p0
 have z2:s2.size<= 100:=by rw[<- au,l2];exact h.k0
 have z3:s3.size<= 2048:=by rw[hs3];simpa [ByteArray.size] using h.d0
 have n2:s2.toList.isEmpty=false:=bI (by rw[<- au,l2];exact List.length_pos_iff.2 h.k1)
 have hCl:=fun w (hm:ML w)=>xH s1 w (by omega) hm
 rw[l1]at hCl;simp only[h.p1,e1]at hCl;have hSu:=fun w=>(Tryz.strings_HasSuffix s1 ⟨#[47,42]⟩ w (by omega)).mono fun e w' h=>(⟨h.1,h.2.symm⟩:_/\ w=w')
 simp only[show(⟨#[47,42]⟩:ByteArray).data.toList= [47,42]from rfl,l1,h.p2]at hSu
 have hVa:=fun w=>lM s2 w (by unfold maxLen;omega)
 simp only[l2,h.k2]at hVa;have hTr:=fun w=>qh s2 w (by unfold maxLen;omega)
 simp only[l2,h.k3,e2]at hTr;have y1:(s1.size:Int)<= 200:=by omega
 have y2:(s2.size:Int)<= 100:=by omega
 have y3:(s3.size:Int)<= 2048:=by omega
 rw[e1,e2,e3];clear hs1 hs2 hs3 e1 e2 e3 l1 l2 h;go_enter Tryz.func110,Tryz.ntmps110
 go_upto_region 1 with(fail)
 have LV:Below w.heap.size w (w.alloc (.cells #[.string s1,.string s2,.string s3] 99)):=aj (Below.refl _ _) _;have BV:=BT.new' w (fun _=>0) 9 w.heap.size rfl 99 #[.string s1,.string s2,.string s3]
 have hmV:ML (w.alloc (.cells #[.string s1,.string s2,.string s3] 99)):=hml.below LV (Nat.le_refl _);obtain⟨V,hV⟩: ∃V,V=w.alloc (.cells #[.string s1,.string s2,.string s3] 99):=⟨_,rfl⟩;rw[<- hV]at LV BV hmV⊢;clear hV;obtain⟨k0,k1,k2,-,-,-⟩:=BV.b.c3;go_wp2_with fail
 refine(hCl V hmV).mono ?_;rintro e w1 ⟨rfl,L1⟩;have B1:=BV.ah L1;have L2:=stepW LV L1;clear k0 k1 k2 hCl;obtain⟨k0,k1,k2,-,-,-⟩:=B1.b.c3;have Sd:Below w.heap.size w w1.drew/\ w1.drew.cell? ⟨w.heap.size,0,none⟩=some (.string s1)/\ w1.drew.cell? ⟨w.heap.size,1,none⟩=some (.string s2)/\ w1.drew.cell? ⟨w.heap.size,2,none⟩=some (.string s3):=⟨L2.drew,k0,k1,k2⟩;have hX: ∀w4:World,Below w1.drew.heap.size w1.drew w4-> Below w.heap.size w w4/\ w4.cell? ⟨w.heap.size,0,none⟩=some (.string s1)/\ w4.cell? ⟨w.heap.size,1,none⟩=some (.string s2)/\ w4.cell? ⟨w.heap.size,2,none⟩=some (.string s3):=fun w4 L4=>by
  obtain⟨m0,m1,m2,-,-,-⟩:=(B1.drew.ah L4).b.c3;exact⟨stepW L2.drew L4,m0,m1,m2⟩
 clear B1 LV L1 hmV BV;go_upto_region 2 with(fail)
 go_region_held3 (fun w'=>Below w.heap.size w w'/\ w'.cell? ⟨w.heap.size,0,none⟩=some (.string s1)/\ w'.cell? ⟨w.heap.size,1,none⟩=some (.string s2)/\ w'.cell? ⟨w.heap.size,2,none⟩=some (.string s3))
  (first|exact⟨L2,k0,k1,k2⟩|exact Sd|exact X4|go_keep)
  (first
    | (go_at_call 170
       refine(hSu _).mono ?_
       rintro e w2 ⟨rfl,rfl⟩)
    | (go_at_call 171
       refine(hVa _).mono ?_
       rintro e w3 ⟨rfl,rfl⟩)
    | (go_at_call 172
       refine(hTr _).mono ?_;rintro e w4 ⟨rfl,L4⟩
       have X4:=hX w4 L4))
 rename_i hS9;go_wp2_with fail
 go_ret
 exact⟨rfl,hS9.1⟩
def postS:ByteArray:=⟨#[80,79,83,84]⟩
def EZ:Bs:= [47,101,99,104,111]
def Zn:Bs:= [47,107,101,121]
def rs3:List (ByteArray×(Nat×ByteArray)):= [(sBA EZ,(1,postS)),(sBA Zn,(2,eu)),(sBA aX,(3,eu))]
def uZ (tab:List En) (i:Nat):List (ByteArray×(Nat×ByteArray)):=rs3++(tab.take i).mapIdx fun k x=>(sBA x.path,(10+k,eu))
def lK (x:En):List Value:= [sv x.path,sv x.kind,sv x.data]
structure J3 (tab:List En):Prop where
 n:tab.length<= 40
 e: ∀x∈tab,EnOk x/\ x.path≠EZ
 no: ∀i x,tab[i]? = some x-> aT (uZ tab i) (sBA x.path)=none
 st:aT (uZ tab tab.length) (sBA aX)=some (3,eu)
 at_: ∀i x,tab[i]? = some x-> aT (uZ tab tab.length) (sBA x.path)=some (10+i,eu)
theorem zD: ∀(l:List En) (k:Nat) (x:En),l[k]? = some x->(l.flatMap lK)[k*3]? = some (sv x.path)/\ (l.flatMap lK)[k*3+1]? = some (sv x.kind)/\ (l.flatMap lK)[k*3+2]? = some (sv x.data)
 | [],k,x,h=>by simp at h
 |y::l,0,x,h=>by
  obtain rfl:y=x:=by simpa using h
  exact⟨rfl,rfl,rfl⟩
 |y::l,k+1,x,h=>by
  have:=zD l k x (by simpa using h)
  rw[show(k+1)*3=k*3+1+1+1 by omega]
  show(sv y.path::sv y.kind::sv y.data::l.flatMap lK)[k*3+1+1+1]? = _/\ (sv y.path::sv y.kind::sv y.data::l.flatMap lK)[k*3+1+1+1+1]? = _/\ (sv y.path::sv y.kind::sv y.data::l.flatMap lK)[k*3+1+1+1+2]? = _;simpa only[List.getElem?_cons_succ] using this
theorem Rn (tab:List En) (k:Nat) (x:En) (hx:tab[k]? = some x):uZ tab (k+1)=uZ tab k++ [(sBA x.path,(10+k,eu))]:=by
 have hk:k<tab.length:=(List.getElem?_eq_some_iff.1 hx).1;rw[uZ,uZ,List.take_succ,hx,List.append_assoc];simp only[Option.toList_some,List.mapIdx_append,List.length_take,Nat.min_eq_left (Nat.le_of_lt hk)];simp
theorem Zo (w:World) (t:Nat-> Nat) (m τ:Nat) (tab:List En) (A:Option Addr) (c:Nat) (hg:GL w t) (hm:10<= m/\ m+10<= 1000000) (hτ: ¬Mk m 10 τ) (hT:J3 tab) (hr:RT w t τ 99 3 (.slice A tab.length c) tab.length (tab.flatMap lK)) (hA:0<tab.length):
 Calls Tryz.prog 62 #[.slice A tab.length c] w fun e w'=> ∃g,e= .returned (.tuple #[pV g,.int .i64 0])/\ ∃t',yw w' t' m g tab/\ Stp (Mk m 10) w t w' t':=by
 obtain⟨n,hn⟩: ∃n,n=tab.length:=⟨_,rfl⟩;rw[<- hn]at hr hA⊢;have HN:=Lib.hid hn;have h40:n<= 40:=by rw[hn];exact hT.n
 clear hn;obtain⟨g,o,cap,e1,hgl,hgm,hca⟩:=hr.at_ hA;injection e1 with e1 _ e2
 subst e1 e2;go_enter Tryz.func62,Tryz.ntmps62
 go_wp2_with fail
 go_loopw [17] (fun z wr=> ∃i:Nat,z= .int .i64 (i:Int)/\ i<= n/\ Below w.heap.size w wr) (fun z _=>n- (intOf z).toNat)
 case atStart=>exact⟨0,rfl,Nat.zero_le _,Below.refl _ _⟩
 case round=>
  obtain⟨i,rfl,hi,Lr⟩:=hrel;rcases Nat.lt_or_ge i n with hin|hin
  ·obtain⟨x,hx⟩: ∃x,tab[i]? = some x:=⟨_,List.getElem?_eq_getElem (by rw[<- HN.out];exact hin)⟩
   obtain⟨E1,E2⟩:=hT.e x (List.mem_of_getElem? hx);obtain⟨q0,q1,q2⟩:=zD tab i x hx;have y0:wr.cell? ⟨g,o+i*3,none⟩=some (sv x.path):=(Lr.cell (p:=⟨g,o+i*3,none⟩) hgl).trans ((hca (i*3) (by omega)).1.trans q0)
   have y1:wr.cell? ⟨g,o+i*3+1,none⟩=some (sv x.kind):=by rw[Nat.add_assoc];exact(Lr.cell (p:=⟨g,o+(i*3+1),none⟩) hgl).trans ((hca (i*3+1) (by omega)).1.trans q1)
   have y2:wr.cell? ⟨g,o+i*3+2,none⟩=some (sv x.data):=by rw[Nat.add_assoc];exact(Lr.cell (p:=⟨g,o+(i*3+2),none⟩) hgl).trans ((hca (i*3+2) (by omega)).1.trans q2)
   have hmr:ML wr:=hg.ml.below Lr (Nat.le_refl _);have LV:=aj Lr (.cells #[sv x.path,sv x.kind,sv x.data] 99);have hI:=JZ (wr.alloc (.cells #[sv x.path,sv x.kind,sv x.data] 99)) x E1 (hg.ml.below LV (Nat.le_refl _));clear q0 q1 q2 hx;go_wp2_with fail
   refine hI.mono ?_;rintro e w2 ⟨rfl,L2⟩;go_wp2_with fail
   go_roundw
   case rel=>exact⟨i+1,by go_num,hin,stepW LV L2⟩
   case measure=>simp[intOf];omega
  ·obtain rfl:i=n:=by omega
   have sr:=Stp.below Lr (fun _=>False) t
   have hgr:=hg.keep sr id;have hrr:=hr.keep sr id;go_wp2_with fail
   refine(Y2 wr t (m+1)).mono ?_;rintro e w1 ⟨gr,rfl,t1,hR1,s1⟩;have hr1:=hrr.keep s1 id;have hrd:Rd w1 w1.heap.size 3 (some ⟨g,o,none⟩) i (tab.flatMap lK):=by
    obtain⟨A5,c5,e5,-,-,hr5,-⟩:=hr1.form;injection e5 with e5 _ _
    subst e5;exact hr5
   have h1c: ∀u∈tab.flatMap lK,u.oneCell'=true:=fun u hu=>by
    obtain⟨x,-,hx⟩:=List.mem_flatMap.1 hu;simp[lK]at hx;rcases hx with rfl|rfl|rfl<;>rfl
   go_wp2_with fail
   refine(EY w1 t1 (m+7) g o i c (tab.flatMap lK) hrd h1c (by omega)).mono ?_
   rintro e w2 ⟨v,rfl,t2,hv2,s2⟩;have hR2:=hR1.keep s2 fun _ _ h=>h
   have hr2:=hr1.keep s2 id;have sA:=(sr.trans s1 fun _ h=>h).trans s2 fun _ h=>h
   obtain⟨A7,c7,rfl,-,-,-,-⟩:=hv2.form;have s3:=Stp.alloc w2 t2 (fun _=>False) (.cells #[pV gr,.slice A7 i c7] 203) m
   have bS:=BT.new' w2 t2 m w2.heap.size rfl 203 #[pV gr,.slice A7 i c7];go_upto_region 10 with(fail)
   obtain⟨V,hV⟩: ∃V,V=w2.alloc (.cells #[pV gr,.slice A7 i c7] 203):=⟨_,rfl⟩;rw[<- hV]at s3 bS⊢;clear hV;generalize upT t2 w2 m=t3 at*;have hR3:=hR2.keep s3 fun _ _ h=>h
   have hr3:=hr2.keep s3 id;have hv3:=hv2.keep s3 id;have hg3:=(hgr.keep (s1.trans s2 fun _ h=>h) id).keep s3 id
   have sB:=sA.trans s3 fun _ h=>h
   clear hrr hR1 hr1 hrd s1 hv2 hR2 hr2 s2 s3 sA hgr sr hca hr hgl hgm;have sC0:=sB.mono (S':=Mk m 10) fun _ h=>h.elim
   obtain⟨j0,j1,-,-⟩:=bS.b.c2;have z0:=Stp.alloc V t3 (fun _=>False) (.cells #[.string postS] 9) 9
   have b0:=BT.new' V t3 9 V.heap.size rfl 9 #[.string postS];have hA0:=zy (V.alloc (.cells #[.string postS] 9)) (upT t3 V 9) (m+1) gr [] (sBA EZ) 1 postS (hR3.keep z0 fun _ _ h=>h) (hg3.keep z0 id).ml (by omega) (by decide) (by decide) (by kernel_rfl) (by decide) (by decide) (by decide) (by decide) (by decide) (some ⟨V.heap.size,0,none⟩) 1 ⟨V.heap.size,0,rfl,b0.lt,b0.b.cell 0⟩
   go_wp2_with fail
   refine hA0.mono ?_;rintro e w10 ⟨rfl,t10,hR10,s10⟩;have bS10:=(bS.keep z0 id).keep s10 (by omega)
   have hr10:=(hr3.keep z0 id).keep s10 fun h=>hτ (by omega)
   have hv10:=(hv3.keep z0 id).keep s10 (by omega)
   have Nw:=(hg3.keep z0 id).keep s10 (by omega)
   have sC10:=(sC0.trans z0 fun _ h=>h.elim).trans s10 fun y (h:Mk (m+1) 5 y)=>(show Mk m 10 y by omega)
   clear hA0 z0 b0 bS hR3 hr3 hv3 hg3 sC0 s10 j0 j1;obtain⟨j0,j1,-,-⟩:=bS10.b.c2;have z1:=Stp.alloc w10 t10 (fun _=>False) (.cells #[.string eu] 9) 9
   have b1:=BT.new' w10 t10 9 w10.heap.size rfl 9 #[.string eu];have hA1:=zy (w10.alloc (.cells #[.string eu] 9)) (upT t10 w10 9) (m+1) gr [(sBA EZ,(1,postS))] (sBA Zn) 2 eu (hR10.keep z1 fun _ _ h=>h) (Nw.keep z1 id).ml (by omega) (by decide) (by decide) (by kernel_rfl) (by decide) (by decide) (by decide) (by decide) (by decide) (some ⟨w10.heap.size,0,none⟩) 1 ⟨w10.heap.size,0,rfl,b1.lt,b1.b.cell 0⟩
   go_wp2_with fail
   refine hA1.mono ?_;rintro e w11 ⟨rfl,t11,hR11,s11⟩;have bS11:=(bS10.keep z1 id).keep s11 (by omega)
   have hr11:=(hr10.keep z1 id).keep s11 fun h=>hτ (by omega)
   have hv11:=(hv10.keep z1 id).keep s11 (by omega)
   have Ro:=(Nw.keep z1 id).keep s11 (by omega)
   have sC11:=(sC10.trans z1 fun _ h=>h.elim).trans s11 fun y (h:Mk (m+1) 5 y)=>(show Mk m 10 y by omega)
   clear hA1 z1 b1 bS10 hR10 hr10 hv10 Nw sC10 s11 j0 j1;obtain⟨j0,j1,-,-⟩:=bS11.b.c2;have z2:=Stp.alloc w11 t11 (fun _=>False) (.cells #[.string eu] 9) 9
   have b2:=BT.new' w11 t11 9 w11.heap.size rfl 9 #[.string eu];have hA2:=zy (w11.alloc (.cells #[.string eu] 9)) (upT t11 w11 9) (m+1) gr [(sBA EZ,(1,postS)),(sBA Zn,(2,eu))] (sBA aX) 3 eu (hR11.keep z2 fun _ _ h=>h) (Ro.keep z2 id).ml (by omega) (by decide) (by decide) (by kernel_rfl) (by decide) (by decide) (by decide) (by decide) (by decide) (some ⟨w11.heap.size,0,none⟩) 1 ⟨w11.heap.size,0,rfl,b2.lt,b2.b.cell 0⟩
   go_wp2_with fail
   refine hA2.mono ?_;rintro e w12 ⟨rfl,t12,hR12,s12⟩;have bS12:=(bS11.keep z2 id).keep s12 (by omega)
   have hr12:=(hr11.keep z2 id).keep s12 fun h=>hτ (by omega)
   have hv12:=(hv11.keep z2 id).keep s12 (by omega)
   have Rq:=(Ro.keep z2 id).keep s12 (by omega)
   have sC12:=(sC11.trans z2 fun _ h=>h.elim).trans s12 fun y (h:Mk (m+1) 5 y)=>(show Mk m 10 y by omega)
   clear hA2 z2 b2 bS11 hR11 hr11 hv11 Ro sC11 s12 j0 j1;go_wp2_with fail
   have hrs0: [(sBA EZ,((1:Nat),postS)),(sBA Zn,(2,eu))]++ [(sBA aX,(3,eu))]=uZ tab 0:=by simp[uZ,rs3]
   rw[hrs0]at hR12;clear hrs0;go_loopw [50] (fun z wr=> ∃(k:Nat) (tr:Nat-> Nat),z= .int .i64 (k:Int)/\ k<= i/\ RtK wr tr (m+1) gr (uZ tab k)/\ BT wr tr m w2.heap.size 203 #[pV gr,.slice A7 i c7]/\ RT wr tr τ 99 3 (.slice (some ⟨g,o,none⟩) i c) i (tab.flatMap lK)/\ RT wr tr (m+7) 99 3 (.slice A7 i c7) i (tab.flatMap lK)/\ GL wr tr/\ Stp (Mk m 10) w t wr tr) (fun z _=>i- (intOf z).toNat)
   case atStart=>exact⟨0,t12,rfl,Nat.zero_le _,hR12,bS12,hr12,hv12,Rq,sC12⟩
   case round=>
    obtain⟨k,tr,rfl,hk,hRr,bSr,hrr,hvr,hgr,sr⟩:=hrel;clear hR12 bS12 hr12 hv12 Rq sC12;rcases Nat.lt_or_ge k i with hki|hki
    ·obtain⟨x,hx⟩: ∃x,tab[k]? = some x:=⟨_,List.getElem?_eq_getElem (by rw[<- HN.out];exact hki)⟩
     obtain⟨E1,E2⟩:=hT.e x (List.mem_of_getElem? hx);obtain⟨q0,q1,q2⟩:=zD tab k x hx;obtain⟨g',o',cap',e1,-,-,hca⟩:=hrr.at_ hA;simp only[Value.slice.injEq,Option.some.injEq,Addr.mk.injEq,and_true,true_and]at e1;obtain⟨⟨rfl,rfl⟩,rfl⟩:=e1;have y0:wr.cell? ⟨g,o+k*3,none⟩=some (sv x.path):=(hca (k*3) (by omega)).1.trans q0
     have y1:wr.cell? ⟨g,o+k*3+1,none⟩=some (sv x.kind):=by rw[Nat.add_assoc];exact(hca (k*3+1) (by omega)).1.trans q1
     have y2:wr.cell? ⟨g,o+k*3+2,none⟩=some (sv x.data):=by rw[Nat.add_assoc];exact(hca (k*3+2) (by omega)).1.trans q2
     clear q0 q1 q2 hca;go_upto_region 16 with(fail)
     have zE:=Stp.alloc wr tr (fun _=>False) (.cells #[sv x.path,sv x.kind,sv x.data] 99) 9
     have bE:=BT.new' wr tr 9 wr.heap.size rfl 99 #[sv x.path,sv x.kind,sv x.data];obtain⟨V2,hV2⟩: ∃V2,V2=wr.alloc (.cells #[sv x.path,sv x.kind,sv x.data] 99):=⟨_,rfl⟩;rw[<- hV2]at zE bE⊢;clear hV2 y0 y1 y2;generalize upT tr wr 9=tE at*;have hRe:=hRr.keep zE fun _ _ h=>h
     have bSe:=bSr.keep zE id;have hre:=hrr.keep zE id;have hve:=hvr.keep zE id;have hge:=hgr.keep zE id;have se:=sr.trans zE fun _ h=>h.elim
     clear hRr bSr hrr hvr hgr sr zE;have x0:V2.cell? ⟨wr.heap.size,0,none⟩=some (sv x.path):=bE.b.cell 0;obtain⟨j0,-,-,-⟩:=bSe.b.c2;have zB:=(Stp.alloc V2 tE (fun _=>False) (.cells #[.string eu] 9) 9).drew
     have bB:=BT.new' V2 tE 9 V2.heap.size rfl 9 #[.string eu];have hA5:=zy ((V2.alloc (.cells #[.string eu] 9)).drew) (upT tE V2 9) (m+1) gr (uZ tab k) (sBA x.path) (10+k) eu (hRe.keep zB fun _ _ h=>h) (hge.keep zB id).ml (by omega) (by have:=E1.p0;simpa [sBA,ByteArray.size] using this) (by simpa [sBA] using E1.p2) (by simpa [sBA] using E1.p1) (by omega) (by decide) (by decide) (hT.no k x hx) (by simp[uZ,rs3];omega) (some ⟨V2.heap.size,0,none⟩) 1 ⟨V2.heap.size,0,rfl,bB.lt,bB.b.cell 0⟩
     rw[show nV (10+k)=Value.int .i64 (10+(k:Int)) by simp[nV]]at hA5
     have hwr:IntKind.i64.wrap (10+(k:Int))=10+(k:Int):=IntWalk.i64_in _ (by omega)
     have lS:=bSe.lt;have lE:=bE.lt;have S0:V2.cell? ⟨w2.heap.size,0,none⟩=some (pV gr)/\ V2.cell? ⟨wr.heap.size,0,none⟩=some (sv x.path):=⟨j0,x0⟩;have Sd:V2.drew.cell? ⟨w2.heap.size,0,none⟩=some (pV gr)/\ V2.drew.cell? ⟨wr.heap.size,0,none⟩=some (sv x.path):=⟨j0,x0⟩;have bSz:=bSe.keep zB id;have bEz:=bE.keep zB id;have Sb:((V2.alloc (.cells #[.string eu] 9)).drew).cell? ⟨w2.heap.size,0,none⟩=some (pV gr)/\ ((V2.alloc (.cells #[.string eu] 9)).drew).cell? ⟨wr.heap.size,0,none⟩=some (sv x.path):=⟨bSz.b.cell 0,bEz.b.cell 0⟩;have Sa:(V2.alloc (.cells #[.string eu] 9)).cell? ⟨w2.heap.size,0,none⟩=some (pV gr)/\ (V2.alloc (.cells #[.string eu] 9)).cell? ⟨wr.heap.size,0,none⟩=some (sv x.path):=⟨bSz.b.cell 0,bEz.b.cell 0⟩;clear lS lE;go_region_held3 (fun W=>W.cell? ⟨w2.heap.size,0,none⟩=some (pV gr)/\ W.cell? ⟨wr.heap.size,0,none⟩=some (sv x.path))
      (first|exact S0|exact Sd|exact Sa|exact Sb|exact Xf3|go_keep)
      (first| (go_at_call 112
               refine hA5.mono ?_;rintro e w3 ⟨rfl,t3,hR3,s3⟩
               have Xf3:w3.cell? ⟨w2.heap.size,0,none⟩=some (pV gr)/\ w3.cell? ⟨wr.heap.size,0,none⟩=some (sv x.path):=⟨(bSz.keep s3 (by omega)).b.cell 0,(bEz.keep s3 (by omega)).b.cell 0⟩))
     have sD:=(zB.mono (S':=Mk (m+1) 5) fun _ h=>h.elim).trans s3 fun _ h=>h
     have hq5:uZ tab (k+1)=uZ tab k++ [(sBA x.path,(10+k,eu))]:=Rn tab k x hx;go_wp2_with fail
     go_roundw
     case rel=>exact⟨k+1,t3,by go_num,hki,by rw[hq5];exact hR3,bSe.keep sD (by omega),hre.keep sD (fun h=>hτ (by omega)),hve.keep sD (by omega),hge.keep sD (by omega),se.trans (sD.mono fun y (h:Mk (m+1) 5 y)=>(show Mk m 10 y by omega)) fun _ h=>h⟩
     case measure=>simp[intOf];omega
    ·obtain rfl:k=i:=by omega
     obtain⟨g',o',cap',e1,hgl,-,hca⟩:=hrr.at_ hA;simp only[Value.slice.injEq,Option.some.injEq,Addr.mk.injEq,and_true,true_and]at e1;obtain⟨⟨rfl,rfl⟩,rfl⟩:=e1;obtain⟨wk,hwk⟩: ∃y,y=wr:=⟨_,rfl⟩;subst hwk;go_wp2_with fail
     go_loopw [70] (fun z wr=> ∃j:Nat,z= .int .i64 (j:Int)/\ j<= k/\ Below wk.heap.size wk wr) (fun z _=>k- (intOf z).toNat)
     case atStart=>exact⟨0,rfl,Nat.zero_le _,Below.refl _ _⟩
     case round=>
      obtain⟨j,rfl,hj,Lr⟩:=hrel;rcases Nat.lt_or_ge j k with hjn|hjn
      ·obtain⟨x,hx⟩: ∃x,tab[j]? = some x:=⟨_,List.getElem?_eq_getElem (by rw[<- HN.out];exact hjn)⟩
       obtain⟨E1,E2⟩:=hT.e x (List.mem_of_getElem? hx);obtain⟨q0,q1,q2⟩:=zD tab j x hx;have y0:wr.cell? ⟨g,o+j*3,none⟩=some (sv x.path):=(Lr.cell (p:=⟨g,o+j*3,none⟩) hgl).trans ((hca (j*3) (by omega)).1.trans q0)
       have y1:wr.cell? ⟨g,o+j*3+1,none⟩=some (sv x.kind):=by rw[Nat.add_assoc];exact(Lr.cell (p:=⟨g,o+(j*3+1),none⟩) hgl).trans ((hca (j*3+1) (by omega)).1.trans q1)
       have y2:wr.cell? ⟨g,o+j*3+2,none⟩=some (sv x.data):=by rw[Nat.add_assoc];exact(Lr.cell (p:=⟨g,o+(j*3+2),none⟩) hgl).trans ((hca (j*3+2) (by omega)).1.trans q2)
       have LV:=aj Lr (.cells #[sv x.path,sv x.kind,sv x.data] 99);have hne:(x.path== [47,101,99,104,111])=false:=beq_false_of_ne E2;clear q0 q1 q2 hx E1 E2;go_wp2_with fail
       go_roundw
       case rel=>exact⟨j+1,by go_num,hjn,LV⟩
       case measure=>simp[intOf];omega
      ·go_wp2_with fail
       go_ret2
       have sz:=Stp.below Lr (fun _=>False) tr
       refine⟨_,rfl,tr,⟨gr,.slice A7 k c7,uZ tab k,⟨bSr.keep sz id,hRr.keep sz fun _ _ h=>h⟩,?_,?_,?_⟩,sr.trans sz fun _ h=>h.elim⟩
       ·rw[<- HN.out];exact hvr.keep sz id
       ·rw[HN.out];exact hT.st
       ·rw[HN.out];exact hT.at_
end Go.Proofs.YtdmondfpepbniaaGreatDoor
