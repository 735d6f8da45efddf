/- Part 44 of the proof: VmI VzR. -/
import Derived.Test.YtdmondfpepbniaaGreatDoorQ41
namespace Go.Proofs.YtdmondfpepbniaaGreatDoor
open Go.RowKit
set_option maxRecDepth 100000
set_option maxHeartbeats 4000000
set_option linter.all false
def stC (s:SrS) (a b:Int) (o bu mb ti:Nat):Array Value:=#[nV s.accepted,nV s.refused,nV s.shunned,.int .i64 0,nV s.failed,.int .i64 a,.int .i64 b,nV s.timeouts,.int .i64 0,nV o,nV bu,nV mb,nV ti,.bool s.eF,.bool s.stopped]
section
variable (w:World) (t:Nat-> Nat) (g:Nat) (s:SrS) (P:SrP) (L:CL)
theorem SB (h:aZ w t g s P L):
 Calls Tryz.prog 8 #[pV g] w fun e w'=>(∃a b,e= .returned (.agg (stC s a b s.all.length s.pool.now s.pool.most s.wh.dZ.length)))/\ ∃t',aZ w' t' g s P L/\ Stp (fun _=>False) w t w' t':=by
 obtain⟨τ,hτ,hfr⟩:=dW w t;have z1:=Stp.alloc w t (fun _=>False) (.cells #[.int .i64 0,.int .i64 0,.int .i64 0,.int .i64 0,.int .i64 0,.int .i64 0,.int .i64 0,.int .i64 0,.int .i64 0,.int .i64 0,.int .i64 0,.int .i64 0,.int .i64 0,.bool false,.bool false] 38) τ
 have b1:=BT.new' w t τ w.heap.size rfl 38 #[.int .i64 0,.int .i64 0,.int .i64 0,.int .i64 0,.int .i64 0,.int .i64 0,.int .i64 0,.int .i64 0,.int .i64 0,.int .i64 0,.int .i64 0,.int .i64 0,.int .i64 0,.bool false,.bool false];obtain⟨W1,hW1⟩: ∃W1,W1=w.alloc (.cells #[.int .i64 0,.int .i64 0,.int .i64 0,.int .i64 0,.int .i64 0,.int .i64 0,.int .i64 0,.int .i64 0,.int .i64 0,.int .i64 0,.int .i64 0,.int .i64 0,.int .i64 0,.bool false,.bool false] 38):=⟨_,rfl⟩;obtain⟨t1,ht1⟩: ∃y,y=upT t w τ:=⟨_,rfl⟩;obtain⟨B1,hB1⟩: ∃y,y=w.heap.size:=⟨_,rfl⟩;rw[<- hW1,<- ht1]at z1 b1;rw[<- hB1]at b1;have h1:=h.keep z1 (fun _ _ h=>h) id
 have HW1:=Lib.hid hW1;have HB1:=Lib.hid hB1;clear ht1 hW1 hB1;have k0:W1.cell? ⟨g,26,none⟩=some (nV s.accepted):=h1.b.b.cell 26;have k1:W1.cell? ⟨g,27,none⟩=some (nV s.refused):=h1.b.b.cell 27;have k2:W1.cell? ⟨g,28,none⟩=some (nV s.shunned):=h1.b.b.cell 28;have k3:W1.cell? ⟨g,29,none⟩=some (.int .i64 0):=h1.b.b.cell 29;have k4:W1.cell? ⟨g,30,none⟩=some (nV s.failed):=h1.b.b.cell 30;have k5:W1.cell? ⟨g,31,none⟩=some (nV s.requests):=h1.b.b.cell 31;have k6:W1.cell? ⟨g,32,none⟩=some (nV s.responses):=h1.b.b.cell 32;have k7:W1.cell? ⟨g,33,none⟩=some (nV s.timeouts):=h1.b.b.cell 33;have k8:W1.cell? ⟨g,34,none⟩=some (.int .i64 0):=h1.b.b.cell 34;have k9:W1.cell? ⟨g,35,none⟩=some (.int .i64 0):=h1.b.b.cell 35;have k10:W1.cell? ⟨g,36,none⟩=some (.int .i64 0):=h1.b.b.cell 36;have k11:W1.cell? ⟨g,37,none⟩=some (.int .i64 0):=h1.b.b.cell 37;have k12:W1.cell? ⟨g,38,none⟩=some (.int .i64 0):=h1.b.b.cell 38;have k13:W1.cell? ⟨g,39,none⟩=some (.bool s.eF):=h1.b.b.cell 39;have k14:W1.cell? ⟨g,40,none⟩=some (.bool s.stopped):=h1.b.b.cell 40;go_enter Tryz.func8,Tryz.ntmps8
 go_upto_region 3 with(fail)
 rw[<- HW1.out,<- HB1.out];clear HW1;go_upto_region 4 with(fail)
 have z2:=Stp.alloc W1 t1 (fun _=>False) (.cells (stC s s.requests s.responses 0 0 0 0) 38) (τ+1)
 have b2:=BT.new' W1 t1 (τ+1) W1.heap.size rfl 38 (stC s s.requests s.responses 0 0 0 0);obtain⟨W2,hW2⟩: ∃W2,W2=W1.alloc (.cells #[.int .i64 (s.accepted:Int),.int .i64 (s.refused:Int),.int .i64 (s.shunned:Int),.int .i64 0,.int .i64 (s.failed:Int),.int .i64 (s.requests:Int),.int .i64 (s.responses:Int),.int .i64 (s.timeouts:Int),.int .i64 0,.int .i64 0,.int .i64 0,.int .i64 0,.int .i64 0,.bool s.eF,.bool s.stopped] 38):=⟨_,rfl⟩;have z2:Stp (fun _=>False) W1 t1 (W1.alloc (.cells #[.int .i64 (s.accepted:Int),.int .i64 (s.refused:Int),.int .i64 (s.shunned:Int),.int .i64 0,.int .i64 (s.failed:Int),.int .i64 (s.requests:Int),.int .i64 (s.responses:Int),.int .i64 (s.timeouts:Int),.int .i64 0,.int .i64 0,.int .i64 0,.int .i64 0,.int .i64 0,.bool s.eF,.bool s.stopped] 38)) (upT t1 W1 (τ+1)):=z2
 have b2:BT (W1.alloc (.cells #[.int .i64 (s.accepted:Int),.int .i64 (s.refused:Int),.int .i64 (s.shunned:Int),.int .i64 0,.int .i64 (s.failed:Int),.int .i64 (s.requests:Int),.int .i64 (s.responses:Int),.int .i64 (s.timeouts:Int),.int .i64 0,.int .i64 0,.int .i64 0,.int .i64 0,.int .i64 0,.bool s.eF,.bool s.stopped] 38)) (upT t1 W1 (τ+1)) (τ+1) W1.heap.size 38 (stC s s.requests s.responses 0 0 0 0):=b2;obtain⟨t2,ht2⟩: ∃y,y=upT t1 W1 (τ+1):=⟨_,rfl⟩;obtain⟨B2,hB2⟩: ∃y,y=W1.heap.size:=⟨_,rfl⟩;rw[<- hW2,<- ht2]at z2 b2;rw[<- hB2]at b2⊢;have hlt:B1<B2:=by rw[hB2];exact b1.lt
 rw[<- hW2];have h2:=h1.keep z2 (fun _ _ h=>h) id
 have c1:=b1.keep z2 id;have sA:=z1.trans z2 fun _ h=>h
 clear k0 k1 k2 k3 k4 k5 k6 k7 k8 k9 k10 k11 k12 k13 k14 hW2 ht2 hB2 z1 z2 h1 h b1;have j21:W2.cell? ⟨g,21,none⟩=some (.map (some P.bm)):=h2.b.b.cell 21;go_wp2_with (at_range;go_must (refine Au rfl _ 70 rfl Tryz.underlying70 h2.all rfl (τ+2) ?_;intro w3 hMR hS3;go_frame))
 have h3:=h2.keep (hS3 (fun _=>False)) (fun _ _ h=>h) id
 have d1:=c1.keep (hS3 (fun _=>False)) id
 have d2:=b2.keep (hS3 (fun _=>False)) id
 have sB:=sA.trans (hS3 (fun _=>False)) fun _ h=>h
 generalize upT t2 W2 (τ+2)=t3 at*;clear h2 c1 b2 sA hS3 j21;go_loopw [21] (fun _ wr=> ∃(todo:CL) (a b:Int),MR wr t3 11 (τ+2) P.bm W2.heap.size nV nOk (fun y:Nat×Nat×ClS=>pV y.1) L todo/\ BT wr t3 (τ+1) B2 38 (stC s a b 0 0 0 0)/\ BT wr t3 τ B1 38 #[.int .i64 0,.int .i64 0,.int .i64 0,.int .i64 0,.int .i64 0,.int .i64 0,.int .i64 0,.int .i64 0,.int .i64 0,.int .i64 0,.int .i64 0,.int .i64 0,.int .i64 0,.bool false,.bool false]/\ Stp (fun y=>y=τ+1\/ y=τ+2) w3 t3 wr t3) (fun _ wr=>Az wr P.bm W2.heap.size)
 case atStart=>exact⟨L,_,_,hMR,d2,d1,Stp.refl _ _ _⟩
 case round=>
  obtain⟨todo,a,b,hM,e2,e1,sw⟩:=hrel;have h4:=h3.keep sw (fun y hy hz=>by omega) (by omega)
  go_wp2_with (at_next;go_must (refine F8 rfl _ rfl hM rfl ?_ ?_))
  ·intro h0
   clear h0 hM;have hlen:L.length=s.all.length:=by rw[<- h4.l,List.length_map]
   have j21:wr.cell? ⟨g,21,none⟩=some (.map (some P.bm)):=h4.b.b.cell 21;have hln:=h4.all.len (T:=70) Tryz.underlying70 3;rw[hlen]at hln;have f9:wr.frozen? ⟨B2,9,none⟩=false:=e2.b.frozen 9;have i9:wr.cell? ⟨B2,9,none⟩=some (.int .i64 0):=e2.b.cell 9;obtain⟨e3,z3⟩:=e2.aH 9 (nV s.all.length);have e3:BT (wr.setCell ⟨B2,9,none⟩ (nV s.all.length)) t3 (τ+1) B2 38 (stC s a b s.all.length 0 0 0):=e3;have e1:=e1.keep z3 (by omega)
   have h5:=h4.keep z3 (fun y hy (hz:y=τ+1)=>by omega) (by omega)
   obtain⟨V1,hV1⟩: ∃V,V=wr.setCell ⟨B2,9,none⟩ (nV s.all.length):=⟨_,rfl⟩;rw[<- hV1]at e3 z3 e1 h5;have HV1:=Lib.hid hV1;clear hV1 e2 h4;have j20:V1.cell? ⟨g,20,none⟩=some (pV P.gr):=h5.b.b.cell 20;have hLe:=JW V1 t3 50 P.gr s.pool h5.pool;go_upto_region 11 with(fail)
   rw[<- HV1.out];clear HV1 i9 f9 hln j21;go_wp2_with fail
   refine hLe.mono ?_;rintro e w6 ⟨rfl,q6,rfl⟩;have e4:=e3.drewN q6;have c4:=e1.drewN q6;have h6:=h5.keep ((Stp.refl (fun _=>False) V1 t3).drewN q6) (fun _ _ h=>h) id
   have f10:V1.frozen? ⟨B2,10,none⟩=false:=e3.b.frozen 10;have f11:V1.frozen? ⟨B2,11,none⟩=false:=e3.b.frozen 11;have i10:V1.cell? ⟨B2,10,none⟩=some (.int .i64 0):=e3.b.cell 10;have i11:V1.cell? ⟨B2,11,none⟩=some (.int .i64 0):=e3.b.cell 11;obtain⟨n1,y1⟩:=e4.aH 10 (nV s.pool.now);obtain⟨n2,y2⟩:=n1.aH 11 (nV s.pool.most);have n2:BT (((V1.drewN q6).setCell ⟨B2,10,none⟩ (nV s.pool.now)).setCell ⟨B2,11,none⟩ (nV s.pool.most)) t3 (τ+1) B2 38 (stC s a b s.all.length s.pool.now s.pool.most 0):=n2;have y12:=y1.trans y2 fun _ h=>h
   have h7:=h6.keep y12 (fun y hy (hz:y=τ+1)=>by omega) (by omega)
   have c5:=c4.keep y12 (by omega)
   have sC:=((((sB.mono (S':=fun y=>τ<= y) fun _ h=>h.elim).trans sw fun y (h:y=τ+1\/ y=τ+2)=>(show τ<= y by omega)).trans z3 fun y (h:y=τ+1)=>(show τ<= y by omega)).drewN q6).trans y12 fun y (h:y=τ+1)=>(show τ<= y by omega)
   obtain⟨V2,hV2⟩: ∃V,V=((V1.drewN q6).setCell ⟨B2,10,none⟩ (nV s.pool.now)).setCell ⟨B2,11,none⟩ (nV s.pool.most):=⟨_,rfl⟩;rw[<- hV2]at n2 h7 c5 sC;have HV2:=Lib.hid hV2;clear hV2 n1 y1 y2 y12 e4 c4 h6 e3 z3 e1 h5 sw j20 hLe;have j19:V2.cell? ⟨g,19,none⟩=some (pV P.gw):=h7.b.b.cell 19;have hWl:=Zf V2 t3 100 P.gw s.wh h7.lD;go_upto_region 12 with(fail)
   rw[<- HV2.out];clear HV2 f10 f11 i10 i11;go_wp2_with fail
   refine hWl.mono ?_;rintro e w7 ⟨rfl,q7,rfl⟩;have f12:V2.frozen? ⟨B2,12,none⟩=false:=n2.b.frozen 12;have i12:V2.cell? ⟨B2,12,none⟩=some (.int .i64 0):=n2.b.cell 12;obtain⟨e7,z7⟩:=(n2.drewN q7).aH 12 (nV s.wh.dZ.length);have e7:BT ((V2.drewN q7).setCell ⟨B2,12,none⟩ (nV s.wh.dZ.length)) t3 (τ+1) B2 38 (stC s a b s.all.length s.pool.now s.pool.most s.wh.dZ.length):=e7;have e8:=(c5.drewN q7).keep z7 (by omega)
   have h8:=(h7.keep ((Stp.refl (fun _=>False) V2 t3).drewN q7) (fun _ _ h=>h) id).keep z7 (fun y hy (hz:y=τ+1)=>by omega) (by omega)
   have sD:=(sC.drewN q7).trans z7 fun y (h:y=τ+1)=>(show τ<= y by omega)
   obtain⟨V3,hV3⟩: ∃V,V=(V2.drewN q7).setCell ⟨B2,12,none⟩ (nV s.wh.dZ.length):=⟨_,rfl⟩;rw[<- hV3]at e7 z7 e8 h8 sD;have HV3:=Lib.hid hV3;clear hV3 z7 n2 h7 c5 sC j19 hWl;go_upto_region 13 with(fail)
   rw[<- HV3.out];clear HV3 f12 i12;have fa0:V3.frozen? ⟨B1,0,none⟩=false:=e8.b.frozen 0;have ca0:V3.cell? ⟨B1,0,none⟩=some (.int .i64 0):=e8.b.cell 0;have cb0:V3.cell? ⟨B2,0,none⟩=some (nV s.accepted):=e7.b.cell 0;have fa1:V3.frozen? ⟨B1,1,none⟩=false:=e8.b.frozen 1;have ca1:V3.cell? ⟨B1,1,none⟩=some (.int .i64 0):=e8.b.cell 1;have cb1:V3.cell? ⟨B2,1,none⟩=some (nV s.refused):=e7.b.cell 1;have fa2:V3.frozen? ⟨B1,2,none⟩=false:=e8.b.frozen 2;have ca2:V3.cell? ⟨B1,2,none⟩=some (.int .i64 0):=e8.b.cell 2;have cb2:V3.cell? ⟨B2,2,none⟩=some (nV s.shunned):=e7.b.cell 2;have fa3:V3.frozen? ⟨B1,3,none⟩=false:=e8.b.frozen 3;have ca3:V3.cell? ⟨B1,3,none⟩=some (.int .i64 0):=e8.b.cell 3;have cb3:V3.cell? ⟨B2,3,none⟩=some (.int .i64 0):=e7.b.cell 3;have fa4:V3.frozen? ⟨B1,4,none⟩=false:=e8.b.frozen 4;have ca4:V3.cell? ⟨B1,4,none⟩=some (.int .i64 0):=e8.b.cell 4;have cb4:V3.cell? ⟨B2,4,none⟩=some (nV s.failed):=e7.b.cell 4;have fa5:V3.frozen? ⟨B1,5,none⟩=false:=e8.b.frozen 5;have ca5:V3.cell? ⟨B1,5,none⟩=some (.int .i64 0):=e8.b.cell 5;have cb5:V3.cell? ⟨B2,5,none⟩=some (.int .i64 a):=e7.b.cell 5;have fa6:V3.frozen? ⟨B1,6,none⟩=false:=e8.b.frozen 6;have ca6:V3.cell? ⟨B1,6,none⟩=some (.int .i64 0):=e8.b.cell 6;have cb6:V3.cell? ⟨B2,6,none⟩=some (.int .i64 b):=e7.b.cell 6;have fa7:V3.frozen? ⟨B1,7,none⟩=false:=e8.b.frozen 7;have ca7:V3.cell? ⟨B1,7,none⟩=some (.int .i64 0):=e8.b.cell 7;have cb7:V3.cell? ⟨B2,7,none⟩=some (nV s.timeouts):=e7.b.cell 7;have fa8:V3.frozen? ⟨B1,8,none⟩=false:=e8.b.frozen 8;have ca8:V3.cell? ⟨B1,8,none⟩=some (.int .i64 0):=e8.b.cell 8;have cb8:V3.cell? ⟨B2,8,none⟩=some (.int .i64 0):=e7.b.cell 8;have fa9:V3.frozen? ⟨B1,9,none⟩=false:=e8.b.frozen 9;have ca9:V3.cell? ⟨B1,9,none⟩=some (.int .i64 0):=e8.b.cell 9;have cb9:V3.cell? ⟨B2,9,none⟩=some (nV s.all.length):=e7.b.cell 9;have fa10:V3.frozen? ⟨B1,10,none⟩=false:=e8.b.frozen 10;have ca10:V3.cell? ⟨B1,10,none⟩=some (.int .i64 0):=e8.b.cell 10;have cb10:V3.cell? ⟨B2,10,none⟩=some (nV s.pool.now):=e7.b.cell 10;have fa11:V3.frozen? ⟨B1,11,none⟩=false:=e8.b.frozen 11;have ca11:V3.cell? ⟨B1,11,none⟩=some (.int .i64 0):=e8.b.cell 11;have cb11:V3.cell? ⟨B2,11,none⟩=some (nV s.pool.most):=e7.b.cell 11;have fa12:V3.frozen? ⟨B1,12,none⟩=false:=e8.b.frozen 12;have ca12:V3.cell? ⟨B1,12,none⟩=some (.int .i64 0):=e8.b.cell 12;have cb12:V3.cell? ⟨B2,12,none⟩=some (nV s.wh.dZ.length):=e7.b.cell 12;have fa13:V3.frozen? ⟨B1,13,none⟩=false:=e8.b.frozen 13;have ca13:V3.cell? ⟨B1,13,none⟩=some (.bool false):=e8.b.cell 13;have cb13:V3.cell? ⟨B2,13,none⟩=some (.bool s.eF):=e7.b.cell 13;have fa14:V3.frozen? ⟨B1,14,none⟩=false:=e8.b.frozen 14;have ca14:V3.cell? ⟨B1,14,none⟩=some (.bool false):=e8.b.cell 14;have cb14:V3.cell? ⟨B2,14,none⟩=some (.bool s.stopped):=e7.b.cell 14;obtain⟨X,hX,bX,yy⟩:=Xp V3 t3 τ B1 _ _ _ _ _ _ _ _ _ _ _ _ _ _ _ e8 (nV s.accepted) (nV s.refused) (nV s.shunned) (.int .i64 0) (nV s.failed) (.int .i64 a) (.int .i64 b) (nV s.timeouts) (.int .i64 0) (nV s.all.length) (nV s.pool.now) (nV s.pool.most) (nV s.wh.dZ.length) (.bool s.eF) (.bool s.stopped);have h9:=h8.keep yy (fun y hy (hz:y=τ)=>by omega) (by omega)
   have sE:=(sD.trans yy fun y (h:y=τ)=>(show τ<= y by omega)).drop (S':=fun _=>False) fun k hk (hS:τ<= t k)=>by have:=hfr k hk;omega
   have HX:=Lib.hid hX;have r0:X.cell? ⟨B1,0,none⟩=some (nV s.accepted):=bX.b.cell 0;have r1:X.cell? ⟨B1,1,none⟩=some (nV s.refused):=bX.b.cell 1;have r2:X.cell? ⟨B1,2,none⟩=some (nV s.shunned):=bX.b.cell 2;have r3:X.cell? ⟨B1,3,none⟩=some (.int .i64 0):=bX.b.cell 3;have r4:X.cell? ⟨B1,4,none⟩=some (nV s.failed):=bX.b.cell 4;have r5:X.cell? ⟨B1,5,none⟩=some (.int .i64 a):=bX.b.cell 5;have r6:X.cell? ⟨B1,6,none⟩=some (.int .i64 b):=bX.b.cell 6;have r7:X.cell? ⟨B1,7,none⟩=some (nV s.timeouts):=bX.b.cell 7;have r8:X.cell? ⟨B1,8,none⟩=some (.int .i64 0):=bX.b.cell 8;have r9:X.cell? ⟨B1,9,none⟩=some (nV s.all.length):=bX.b.cell 9;have r10:X.cell? ⟨B1,10,none⟩=some (nV s.pool.now):=bX.b.cell 10;have r11:X.cell? ⟨B1,11,none⟩=some (nV s.pool.most):=bX.b.cell 11;have r12:X.cell? ⟨B1,12,none⟩=some (nV s.wh.dZ.length):=bX.b.cell 12;have r13:X.cell? ⟨B1,13,none⟩=some (.bool s.eF):=bX.b.cell 13;have r14:X.cell? ⟨B1,14,none⟩=some (.bool s.stopped):=bX.b.cell 14;clear hX bX yy e7 e8 h8 sD;go_wp2_with fail
   rw[<- HX.out];refine bodyPost_ret (v:=.agg (stC s a b s.all.length s.pool.now s.pool.most s.wh.dZ.length)) ?_ rfl ⟨⟨a,b,rfl⟩,t3,h9,sE⟩;simp[results,Tryz.results8,go_sem,stC,r0,r1,r2,r3,r4,r5,r6,r7,r8,r9,r10,r11,r12,r13,r14]
  ·intro k gl gc x todo' w5 hp hperm hM5 hS5 hent
   have s5:=hS5 (fun y=>y=τ+1\/ y=τ+2) (.inr rfl)
   have h5:=h4.keep s5 (fun y hy hz=>by omega) (by omega)
   have hX:=h5.x _ hp;have e5:=e2.keep (hS5 (fun y=>y=τ+2) rfl) (by omega)
   have c5:=e1.keep (hS5 (fun y=>y=τ+2) rfl) (by omega)
   have sw5:=sw.trans s5 fun _ h=>h
   have hcm:=hM.come;clear h4 e2 e1 sw hS5 hM s5;have j0:w5.cell? ⟨gl,0,none⟩=some (pV gc):=hX.b.b.cell 0;have hC:=Q5 w5 t3 (cM k+10) gc s.cf P.tv P.gs x.c hX.c;have i5:w5.cell? ⟨B2,5,none⟩=some (.int .i64 a):=e5.b.cell 5;have i6:w5.cell? ⟨B2,6,none⟩=some (.int .i64 b):=e5.b.cell 6;have f5:w5.frozen? ⟨B2,5,none⟩=false:=e5.b.frozen 5;have f6:w5.frozen? ⟨B2,6,none⟩=false:=e5.b.frozen 6;clear hX h5;go_wp2_with fail
   refine hC.mono ?_;rintro e w6 ⟨rfl,q6,rfl⟩;obtain⟨n1,y1⟩:=(e5.drewN q6).aH 5 (.int .i64 (wrap64 (a+(x.c.taken:Int))));obtain⟨n2,y2⟩:=n1.aH 6 (.int .i64 (wrap64 (b+(x.c.whole:Int))));have y12:=y1.trans y2 fun _ h=>h
   have hM7:=(hM5.keep ((Stp.refl (fun _=>False) w5 t3).drewN q6) id id).keep y12 (by omega) (by omega)
   have c7:=(c5.drewN q6).keep y12 (by omega)
   go_wp2_with fail
   go_roundw
   case rel=>exact⟨todo',wrap64 (a+(x.c.taken:Int)),wrap64 (b+(x.c.whole:Int)),hM7,n2.to rfl,c7,(sw5.drewN q6).trans y12 fun y (h:y=τ+1)=>.inl h⟩
   case measure=>
    have:=hM7.come;have h9:=hperm.length_eq;simp only[List.length_cons]at h9;rw[hcm];refine Nat.lt_of_le_of_lt (Nat.le_of_eq this) ?_;omega
end
theorem KE (hd:Bool) (r:Bs) (y:Rs) (cl:Bool) (k:Nat) (er:Int) (h:ug hd r=(y,cl,k,er)):er=12\/ er=8\/ (er=0/\ k<= r.length):=by
 unfold ug Lj at h;split at h
 ·injection h with _ h;injection h with _ h;injection h with _ h
  exact .inl h.symm
 ·injection h with _ h;injection h with _ h;injection h with _ h
  exact .inr (.inl h.symm)
 ·injection h with _ h;injection h with _ h;injection h with h1 h2
  exact .inr (.inr ⟨h2.symm,by omega⟩)
def jX (b:Bs):List Bs-> Nat-> List Rs-> List Rs×Nat×Int
 | [],n,l=>(l,n,0)
 |m::ms,n,l=>
  if(b.drop (n+jq (b.length+1) (b.drop n))).isPrefixOf jW then(l,n,0)
  else match ug (decide (m=CV)) (b.drop (n+jq (b.length+1) (b.drop n)))with
   | (y,cl,k,er)=>if er=12 then(l,n,0)else if er=0 then(if cl then(l++ [y],n+jq (b.length+1) (b.drop n)+k,0)else jX b ms (n+jq (b.length+1) (b.drop n)+k) (l++ [y]))else([],0,8)
theorem SC (b:Bs) (n:Nat) (l:List Rs):jX b [] n l=(l,n,0):=by rw[jX]
theorem vw (b:Bs) (m:Bs) (ms:List Bs) (n q:Nat) (l:List Rs) (hq:n+jq (b.length+1) (b.drop n)=q) (h:(b.drop q).isPrefixOf jW=true\/ ∃y cl k,ug (decide (m=CV)) (b.drop q)=(y,cl,k,12)):jX b (m::ms) n l=(l,n,0):=by
 rw[jX,hq];split
 ·rfl
 ·rename_i h1
  rcases h with h| ⟨y,cl,k,h⟩
  ·exact absurd h h1
  ·rw[h];rfl
theorem SG (b:Bs) (m:Bs) (ms:List Bs) (n q:Nat) (l:List Rs) (y:Rs) (cl:Bool) (k:Nat) (hq:n+jq (b.length+1) (b.drop n)=q) (h:(b.drop q).isPrefixOf jW=false) (h2:ug (decide (m=CV)) (b.drop q)=(y,cl,k,8)):jX b (m::ms) n l=([],0,8):=by
 rw[jX,hq,h,h2];rfl
theorem XC (b:Bs) (m:Bs) (ms:List Bs) (n q:Nat) (l:List Rs) (y:Rs) (cl:Bool) (k:Nat) (hq:n+jq (b.length+1) (b.drop n)=q) (h:(b.drop q).isPrefixOf jW=false) (h2:ug (decide (m=CV)) (b.drop q)=(y,cl,k,0)):
 jX b (m::ms) n l=if cl then(l++ [y],q+k,0)else jX b ms (q+k) (l++ [y]):=by
 rw[jX,hq,h,h2];rfl
theorem KF (A:Option Addr) (c:Nat) (b:Bs) (Am:Option Addr) (cm:Nat) (ms:List Bs) (w:World) (hr:Rd w w.heap.size 1 A b.length (b.map bv)) (hc:b.length<= c) (hb:b.length<= 999999)
 (hm:Rd w w.heap.size 1 Am ms.length (ms.map tv)) (_hmc:ms.length<= cm) (hml:ms.length<= 1000):
 Calls Tryz.prog 12 #[.slice A b.length c,.slice Am ms.length cm] w (Xz w (jX b ms 0 [])):=by
 obtain⟨R0,hR0⟩: ∃R0,jX b ms 0 []=R0:=⟨_,rfl⟩;rw[hR0];have HR0:=Lib.hid hR0;clear hR0;go_enter Tryz.func12,Tryz.ntmps12
 go_wp2_with fail
 go_loopw [18,7,8] (fun i v n wr=> ∃(k:Nat) (l:List RsP) (m:Nat),i= .int .i64 k/\ k<= ms.length/\ m<= b.length/\ n= .int .i64 m/\ l.length<= k/\ OSp wr w.heap.size v l/\ Below w.heap.size w wr/\ Hid (R0=jX b (ms.drop k) m (l.map (·.r)))) (fun i _ _ _=>ms.length- (intOf i).toNat)
 case atStart=>exact⟨0,[],0,rfl,Nat.zero_le _,Nat.zero_le _,rfl,Nat.le_refl _,OSp.nil _ _,Below.refl _ _,HR0.out.symm⟩
 case round=>
  obtain⟨k,l,m,rfl,hk,hmb,rfl,hlk,OS,LB,HF⟩:=hrel;obtain⟨Ar,cr,rfl,hcr,-,RR⟩:=OS.form;by_cases hkl:k<ms.length
  ·have hkl2:(k:Int)< (ms.length:Int):=by omega
   obtain⟨mk,hmk⟩: ∃mk,ms[k]? = some mk:=⟨_,List.getElem?_eq_getElem hkl⟩;obtain⟨g0,o0,rfl,hg0,y0⟩:=(hm.below LB).tx k mk hmk;have hdk:ms.drop k=mk::ms.drop (k+1):=by
    obtain⟨h3,h4⟩:=List.getElem?_eq_some_iff.1 hmk;rw[List.drop_eq_getElem_cons h3,h4]
   rw[hdk]at HF;have HKL:=Lib.hid hkl;clear hkl hmk hdk;obtain⟨W1,rfl⟩: ∃W1,W1=wr:=⟨_,rfl⟩;go_wp2_with fail
   go_loopw [11] (fun v ww=> ∃(f q:Nat),q<= b.length/\ v= .int .i64 q/\ b.length-q<f/\ Hid (m+jq (b.length+1) (b.drop m)=q+jq f (b.drop q))/\ Below W1.heap.size W1 ww) (fun v _=>b.length- (intOf v).toNat)
   case atStart=>exact⟨b.length+1,m,hmb,rfl,by omega,rfl,Below.refl _ _⟩
   case round=>
    obtain⟨f,q,hqb,rfl,hqf,HQ,LQ⟩:=hrel;have N2:=stepW LB LQ;have hrq:=hr.below N2;obtain⟨A1,c1,hc1,hs1,xY⟩:=iI c q hrq hqb hc;obtain⟨D,hD⟩: ∃D,D=b.drop q:=⟨_,rfl⟩;have hDl:D.length=b.length-q:=by rw[hD,List.length_drop]
    rw[<- hD]at HQ xY;rw[<- hDl]at hs1 xY hc1 hqf;have HD:=Lib.hid hD;have HDL:=Lib.hid hDl;clear hD hDl;have hPf:=fun(w3:World) (h:Below wr.heap.size wr w3) (g c3:Nat) (hO:Rd w3 w3.heap.size 1 (some ⟨g,0,none⟩) 25 (jW.map bv))=>Ky A1 (some ⟨g,0,none⟩) D jW c1 c3 w3 ((xY.more (Nat.le_trans N2.size (Nat.le_refl _))).ah (Nat.le_refl _) h |>.more h.size) hO hc1
    obtain⟨T,hT⟩: ∃T,jW.isPrefixOf D=T:=⟨_,rfl⟩;rw[hT]at hPf;have HT:=Lib.hid hT;clear hT;go_upto_region 7 with(fail)
    go_cut [27] (fun v27 wx=>v27= .bool T/\ Below wr.heap.size wr wx)
    case first=>
     go_region_with (first
      | (go_at_call 33;refine(CQ _).mono ?_;rintro e w3 ⟨c3,rfl,hc3,hO3,L3⟩;have M3:=stepW (below_drewN' (Below.refl wr.heap.size wr) _) L3)
      | (go_at_call 32;refine(hPf _ M3 _ _ (Own.rdS hO3).2.2).mono ?_;rintro e w4 ⟨rfl,rfl⟩))
     go_wp2_with fail
     go_meet
     case rel=>exact⟨rfl,M3⟩
    case rest=>
     obtain⟨rfl,L9⟩:=hcut;obtain⟨W2,rfl⟩: ∃W2,W2=wc:=⟨_,rfl⟩;have M9:=stepW LQ L9;clear hPf hs1 xY hc1 hrq N2;cases T
     ·have HQ2:=Lib.hid (show m+jq (b.length+1) (b.drop m)=q by rw[HQ.out,Zx _ _ HT.out];rfl)
      clear HQ hqf;have N9:=stepW LB M9;have OS9:=OS.ah M9;obtain⟨A1,c1,hc1,hs1,xY⟩:=iI c q (hr.below N9) hqb hc;rw[<- HD.out,<- HDL.out]at xY;rw[<- HDL.out]at hs1 hc1;obtain⟨hd,hhd⟩: ∃hd,(mk== [72,69,65,68])=hd:=⟨_,rfl⟩
      have HHD:=Lib.hid (show decide (mk=CV)=hd by
       rw[<- hhd];by_cases h:mk=CV
       ·rw[decide_eq_true h,h];rfl
       ·rw[decide_eq_false h];symm;simpa [CV] using h)
      have hRd:=Qs A1 c1 D hd W2 ((xY).more N9.size) (Zz xY) (by have:=HDL.out;omega)
      have HRC:=Lib.hid (KE hd D);obtain⟨R,hR⟩: ∃R,ug hd D=R:=⟨_,rfl⟩;rw[hR]at hRd HRC;obtain⟨y,cl,kk,er⟩:=R;have HRR:=Lib.hid hR;clear hR;go_wp2_with fail
      refine hRd.mono ?_;rintro e w3 ⟨⟨xr,Af,cf,Ab,cb,Ap,cp⟩,rfl,hxr,RX,RN,L3⟩;dsimp only at hxr;subst hxr;dsimp only;have N3:=stepW N9 L3;have OS3:=OS9.ah L3;have hOut:RsX ⟨xr,Af,cf,Ab,cb,Ap,cp⟩ (fun k=>(Value.slice Ar l.length cr).ownBlock=some k):=RN.out fun k hk=>Own.lt2 OS9.o hk
      clear hRd OS OS9 RN L9 M9 LQ LB;obtain⟨V,hV⟩: ∃V,V=w3.alloc (.cells #[.int .i64 xr.st,.slice Af xr.f.length cf,.slice Ab xr.b.length cb,.slice Ap xr.p.length cp] 54):=⟨_,rfl⟩;have BV:Blk V w3.heap.size 54 #[.int .i64 xr.st,.slice Af xr.f.length cf,.slice Ab xr.b.length cb,.slice Ap xr.p.length cp]:=by rw[hV];exact Blk.new' _ _ rfl _ _
      have LV:Below w3.heap.size w3 V:=by rw[hV];exact aj (Below.refl _ _) _
      have NV:=stepW N3 LV;have OSV:=OS3.ah LV;have RXV:=RX.ah LV;have hrdV:=(((xY.more N9.size).ah (Nat.le_refl _) L3).more L3.size |>.ah (Nat.le_refl _) LV).more LV.size
      clear OS3 RX N3;go_upto_region 10 with(fail)
      rw[<- hV];clear hV;obtain⟨pf,hpf⟩: ∃pf,D.isPrefixOf jW=pf:=⟨_,rfl⟩;have HPF:=Lib.hid hpf;have hPg:=fun(w3:World) (h:Below V.heap.size V w3) (g c3:Nat) (hO:Rd w3 w3.heap.size 1 (some ⟨g,0,none⟩) 25 (jW.map bv)) (hc3:25<= c3)=>Ky (some ⟨g,0,none⟩) A1 jW D c3 c1 w3 hO ((hrdV.ah (Nat.le_refl _) h).more h.size) hc3
      rw[hpf]at hPg;clear hpf;go_cut [51] (fun v51 wx=>v51= .bool (decide (er=12)||pf)/\ Below V.heap.size V wx)
      case first=>
       by_cases h12:er=12
       ·have q1:(er==12)=true:=by simpa using h12
        have HV:=Lib.hid (show(decide (er=12)||pf)=true by rw[decide_eq_true h12];rfl)
        clear hPg HRC q1;subst h12
        first|go_quiet (fail)|go_region_with (fail)|go_region
        go_wp2_with fail
        go_meet
        case rel=>first|exact⟨by rw[HV.out],Below.refl _ _⟩|exact⟨by rw[HV.out],below_drewN' (Below.refl _ _) _⟩
       ·have q1:(er==12)=false:=by simpa using h12
        have HV:=Lib.hid (show(decide (er=12)||pf)=pf by rw[decide_eq_false h12];rfl)
        have q2:decide (er=12)=false:=decide_eq_false h12;clear HRC
        go_region_with (first
         | (go_at_call 33;refine(CQ _).mono ?_;rintro e w4 ⟨c4,rfl,hc4,hO4,L4⟩;have M4:=stepW (below_drewN' (Below.refl V.heap.size V) _) L4)
         | (go_at_call 32;refine(hPg _ M4 _ _ (Own.rdS hO4).2.2 hc4).mono ?_;rintro e w5 ⟨rfl,rfl⟩))
        go_wp2_with fail
        go_meet
        case rel=>exact⟨by rw[HV.out],M4⟩
      case rest=>
       obtain⟨rfl,L5⟩:=hcut;obtain⟨W5,rfl⟩: ∃W5,W5=wc:=⟨_,rfl⟩;have N5:=stepW NV L5;have OS5:=OSV.ah L5;have B5:=BV.ah L5;have RX5:=RXV.ah L5;clear hPg hs1 hc1 xY hrdV OSV BV RXV L5 LV;rcases HRC.out xr cl kk er rfl with rfl|rfl| ⟨rfl,hkk⟩
       ·have HF2:=Lib.hid (HF.out.trans (vw b mk _ m q _ HQ2.out (.inr ⟨_,_,_,by rw[HHD.out,<- HD.out];exact HRR.out⟩)))
        clear HRR HRC HF;rw[show(decide ((12:Int)=12)||pf)=true from rfl]
        go_wp2_with fail
        exact bodyPost_ret (v:=.tuple #[.slice Ar l.length cr,.int .i64 (m:Int),.int .i64 0]) (by simp[results,Tryz.results12,go_sem]) rfl ⟨Ar,cr,l,by rw[HF2.out],by rw[HF2.out],OS5.fin.1,OS5.fin.2,N5⟩
       ·rw[show(decide ((8:Int)=12)||pf)=pf from rfl]
        cases pf
        ·have HF2:=Lib.hid (HF.out.trans (SG b mk _ m q _ xr cl kk HQ2.out (by rw[<- HD.out];exact HPF.out) (by rw[HHD.out,<- HD.out];exact HRR.out)))
         clear HRR HRC HF;go_wp2_with fail
         exact bodyPost_ret (v:=.tuple #[.slice none 0 0,.int .i64 0,.int .i64 8]) (by simp[results,Tryz.results12,go_sem]) rfl ⟨none,0,[],by rw[HF2.out];rfl,by rw[HF2.out];rfl,Nat.le_refl _,RRs.nil _,N5⟩
        ·have HF2:=Lib.hid (HF.out.trans (vw b mk _ m q _ HQ2.out (.inl (by rw[<- HD.out];exact HPF.out))))
         clear HRR HRC HF;go_wp2_with fail
         exact bodyPost_ret (v:=.tuple #[.slice Ar l.length cr,.int .i64 (m:Int),.int .i64 0]) (by simp[results,Tryz.results12,go_sem]) rfl ⟨Ar,cr,l,by rw[HF2.out],by rw[HF2.out],OS5.fin.1,OS5.fin.2,N5⟩
       ·rw[show(decide ((0:Int)=12)||pf)=pf from rfl]
        cases pf
        ·have HF2:=Lib.hid (HF.out.trans (XC b mk _ m q _ xr cl kk HQ2.out (by rw[<- HD.out];exact HPF.out) (by rw[HHD.out,<- HD.out];exact HRR.out)))
         have hdl:=HDL.out;obtain⟨z,hz⟩: ∃z,z=q+kk:=⟨_,rfl⟩;rw[<- hz]at HF2;have hwk:IntKind.i64.wrap ((q:Int)+(kk:Int))=(z:Int):=by
          rw[IntWalk.i64_in _ (by omega)];omega
         have htb:z<= b.length:=by omega
         clear hz;obtain⟨j0,j1,j2,j3,-,-,-,-⟩:=B5.c4;have hb5:w.heap.size<= W5.heap.size:=N5.size;clear HRR HRC HF hkk;go_upto_region 14 with(at_builtin;refine Xy rfl (.tmp 55) (.tmp 57) rfl w.heap.size (.slice Ar l.length cr) l rfl OS5 (aj (Below.refl W5.heap.size W5) _) (some ⟨W5.heap.size,0,none⟩) 1 _ ⟨xr,Af,cf,Ab,cb,Ap,cp⟩ rfl (Rd.new W5 _ rfl _ _ 1 4 rfl) RX5 hOut (by omega) hb5 ?_;intro v' w7 ho7 hx7;obtain⟨A7,c7,hv7,-,-,-⟩:=ho7.form;subst hv7)
         have N7:=N5.trans (hx7.below OS5.o (Nat.le_refl _) hb5);have hl1:(l++ [(⟨xr,Af,cf,Ab,cb,Ap,cp⟩:RsP)]).map (·.r)=l.map (·.r)++ [xr]:=by rw[List.map_append];rfl
         rw[<- hl1]at HF2;have hl2:(l++ [(⟨xr,Af,cf,Ab,cb,Ap,cp⟩:RsP)]).length=l.length+1:=by rw[List.length_append];rfl
         generalize l++ [(⟨xr,Af,cf,Ab,cb,Ap,cp⟩:RsP)]=l9 at*;clear hx7 hl1 j0 j1 j2 j3;have HL2:=Lib.hid hl2;have ho8:OSp w7 w.heap.size (.slice A7 (l.length+1) c7) l9:=by rw[<- hl2];exact ho7
         clear hl2;cases cl
         ·have HF3:=Lib.hid (HF2.out.trans (if_neg (by decide)))
          go_wp2_with fail
          go_roundw
          case rel=>exact⟨k+1,l9,z,by go_num,HKL.out,htb,rfl,by have:=HL2.out;omega,ho8,N7,HF3⟩
          case measure=>simp only[intOf];have:=HKL.out;omega
         ·have HF3:=Lib.hid (HF2.out.trans (if_pos rfl))
          go_wp2_with fail
          exact bodyPost_ret (v:=.tuple #[.slice A7 (l.length+1) c7,.int .i64 (z:Int),.int .i64 0]) (by simp[results,Tryz.results12,go_sem]) rfl ⟨A7,c7,l9,by rw[HF3.out,HL2.out],by rw[HF3.out],ho7.fin.1,ho7.fin.2,N7⟩
        ·have HF2:=Lib.hid (HF.out.trans (vw b mk _ m q _ HQ2.out (.inl (by rw[<- HD.out];exact HPF.out))))
         clear HRR HRC HF hkk;go_wp2_with fail
         exact bodyPost_ret (v:=.tuple #[.slice Ar l.length cr,.int .i64 (m:Int),.int .i64 0]) (by simp[results,Tryz.results12,go_sem]) rfl ⟨Ar,cr,l,by rw[HF2.out],by rw[HF2.out],OS5.fin.1,OS5.fin.2,N5⟩
     ·obtain⟨f,rfl⟩: ∃f',f=f'+1:=⟨f-1,by omega⟩
      have h25:=Xv _ _ HT.out;have h25':jW.length=25:=rfl;have HQ2:=Lib.hid (show m+jq (b.length+1) (b.drop m)=(q+25)+jq f (b.drop (q+25)) by rw[HQ.out,Xu _ _ HT.out,HD.out,List.drop_drop];omega)
      have hdl:=HDL.out;have hw25:IntKind.i64.wrap ((q:Int)+25)=(((q+25:Nat)):Int):=by rw[IntWalk.i64_in _ (by omega)];omega
      clear HQ;go_wp2_with fail
      refine(CQ _).mono ?_;rintro e w3 ⟨c3,rfl,hc3,hO3,L3⟩;go_wp2_with fail
      go_roundw
      case rel=>exact⟨f,q+25,by omega,rfl,by omega,HQ2,stepW M9 L3⟩
      case measure=>simp only[intOf];omega
  ·have hkl2: ¬(k:Int)< (ms.length:Int):=by omega
   obtain rfl:k=ms.length:=by omega
   rw[List.drop_of_length_le (Nat.le_refl _),SC]at HF;clear hkl;go_wp2_with fail
   exact bodyPost_ret (v:=.tuple #[.slice Ar l.length cr,.int .i64 (m:Int),.int .i64 0]) (by simp[results,Tryz.results12,go_sem]) rfl ⟨Ar,cr,l,by rw[HF.out],by rw[HF.out],hcr,RR,LB⟩
end Go.Proofs.YtdmondfpepbniaaGreatDoor
