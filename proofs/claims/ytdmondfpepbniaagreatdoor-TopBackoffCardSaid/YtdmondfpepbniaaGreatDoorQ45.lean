/- Part 45 of the proof: VzB VzD. -/
import Derived.Test.YtdmondfpepbniaaGreatDoorQ43
import Derived.Test.YtdmondfpepbniaaGreatDoorQ44
namespace Go.Proofs.YtdmondfpepbniaaGreatDoor
open Go.RowKit
set_option maxRecDepth 100000
set_option maxHeartbeats 4000000
set_option linter.all false
theorem XD (A1:Option Addr) (n1 c1:Nat) (l1:Bs) (A2:Option Addr) (n2 c2:Nat) (l2:Bs) (w:World) (h1:Rd w w.heap.size 1 A1 n1 (l1.map bv)) (h2:Rd w w.heap.size 1 A2 n2 (l2.map bv)) (hn:n1<= maxLen):
 Calls Tryz.prog 13 #[.slice A1 n1 c1,.slice A2 n2 c2] w fun e w'=>e= .returned (.bool (decide (l1=l2)))/\ Below w.heap.size w w':=by
 unfold maxLen at hn;have e1:l1.length=n1:=by have:=h1.1;simpa using this
 have e2:l2.length=n2:=by have:=h2.1;simpa using this
 go_enter Tryz.func13,Tryz.ntmps13
 go_wp2
 ·go_ret
  have hq:=neT ‹((n1:Int) != n2)=true›;exact⟨fO (by rw[eq_comm,decide_eq_false_iff_not];intro h;subst h;omega),Below.refl _ _⟩
 ·have hq:=neF ‹((n1:Int) != n2)=false›
  have hq:n1=n2:=by omega
  by_cases hz:n1=0
  ·have z1:l1= []:=List.eq_nil_of_length_eq_zero (by omega)
   have z2:l2= []:=List.eq_nil_of_length_eq_zero (by omega)
   go_loopw [5] (fun i wr=>i= .int .i64 0/\ Below w.heap.size w wr) (fun i _=>0)
   case atStart=>exact⟨rfl,Below.refl _ _⟩
   case round=>
    obtain⟨rfl,hb⟩:=hrel;go_wp2
    go_ret
    exact⟨fO (by rw[z1,z2];rfl),hb⟩
  ·obtain⟨b1,o1,rfl,hb1,hx1⟩:=h1.2 (by omega)
   obtain⟨b2,o2,rfl,hb2,hx2⟩:=h2.2 (by omega)
   clear h1 h2;go_loopw [5] (fun i wr=> ∃k q:Nat,k<= n1/\ i= .int .i64 k/\ Hid ((l1=l2)=(l1.drop k=l2.drop k))/\ wr=w.drewN q) (fun i _=>n1- (intOf i).toNat)
   case atStart=>exact⟨0,0,Nat.zero_le _,rfl,rfl,rfl⟩
   case round=>
    obtain⟨k,q,hk,rfl,H,rfl⟩:=hrel;by_cases hlt:k<n1
    ·obtain⟨x,hx,hdx⟩:=nH l1 k (by omega)
     obtain⟨y,hy,hdy⟩:=nH l2 k (by omega)
     have Hx:=Lib.hid hdx;clear hdx;have Hy:=Lib.hid hdy;clear hdy;have cx:=hx1 k (bv x) (zl bv _ _ _ hx);have cy:=hx2 k (bv y) (zl bv _ _ _ hy);go_wp2
     go_quiet (fail)
     go_wp2
     ·go_ret
      refine⟨fO ?_,below_drewN' (below_drewN' (Below.refl _ _) _) _⟩;have ht: ¬x=y:=by rintro rfl;simp_all
      rw[eq_comm,decide_eq_false_iff_not,H.out,Hx.out,Hy.out];simp[ht]
     ·go_roundw
      case rel=>exact⟨k+1,q+nq,by omega,by go_num,by rw[H.out,Hx.out,Hy.out];have ht:x=y:=(by apply UInt8.toNat_inj.1;simp_all;try omega);simp only[ht,true_and,List.cons.injEq];exact Lib.hid trivial,by simp[World.drewN]⟩
      case measure=>simp[intOf];omega
    ·go_wp2
     go_ret
     refine⟨fO ?_,below_drewN' (Below.refl _ _) _⟩;rw[eq_comm,decide_eq_true_eq,H.out,List.drop_of_length_le (by omega),List.drop_of_length_le (by omega)]
def NK (n:NC):Bool:= !n.broken&& (!n.shut&& (n.taken&& (decide (n.got.length<= 999999)&& (!OJ n&& (decide ((jX n.got [mP] 0 []).2.1=n.got.length)&& (decide ((jX n.got [mP] 0 []).2.2=0)&&
 (match(jX n.got [mP] 0 []).1 with| [x]=>decide (x.st=200)&&decide (x.b= [111,107,10])|_=>false)))))))
def XE:Option Bool:=(sZ (Ci cf1 tK) 0).bind fun w=>(MW w 0 (MQ aX [])).bind fun w=>(qW 3 w).bind fun w=>(w.s.net.aG[0]?).map NK
theorem KG:XE=some true:=by decide +kernel
theorem SH: ∃x1 x2 x3 n,sZ (Ci cf1 tK) 0=some x1/\ MW x1 0 (MQ aX [])=some x2/\ qW 3 x2=some x3/\ x3.s.net.aG[0]? = some n/\ NK n=true:=by
 have h:=KG;rw[XE,Option.bind_eq_some_iff]at h;obtain⟨x1,h1,h⟩:=h;rw[Option.bind_eq_some_iff]at h;obtain⟨x2,h2,h⟩:=h;rw[Option.bind_eq_some_iff]at h;obtain⟨x3,h3,h⟩:=h;obtain⟨n,h4,h5⟩:=Option.map_eq_some_iff.1 h;exact⟨x1,x2,x3,n,h1,h2,h3,h4,h5⟩
theorem kG:GY cf1:=⟨by decide,by decide,by decide,by decide,by decide,by decide,by decide,by decide,by decide,by decide,by decide,by decide,by decide⟩
theorem OO:J3 tK:=by
 refine⟨by decide,?_,?_,by decide +kernel,?_⟩
 ·intro x hx
  have hx:x=tK[0]\/ x=tK[1]:=by
   rcases List.mem_cons.1 hx with h|h
   ·exact .inl h
   ·exact .inr (List.mem_singleton.1 h)
  rcases hx with rfl|rfl
  ·exact⟨⟨by decide,by kernel_rfl,by decide,by decide,by decide,by decide,by decide +kernel,by decide⟩,by decide⟩
  ·exact⟨⟨by decide,by kernel_rfl,by decide,by decide,by decide,by decide,by decide +kernel,by decide⟩,by decide⟩
 ·intro i x hx
  match i,hx with
  |0,hx=>obtain rfl:=Option.some.inj hx;decide +kernel
  |1,hx=>obtain rfl:=Option.some.inj hx;decide +kernel
  |i+2,hx=>exact absurd hx (by simp[tK])
 ·intro i x hx
  match i,hx with
  |0,hx=>obtain rfl:=Option.some.inj hx;decide +kernel
  |1,hx=>obtain rfl:=Option.some.inj hx;decide +kernel
  |i+2,hx=>exact absurd hx (by simp[tK])
theorem Fj (w:World) (t:Nat-> Nat) (hg:GL w t):
 Calls Tryz.prog 4 #[] w fun e w'=>e= .returned (.bool true)/\ ∃t',Stp SW w t w' t':=by
 obtain⟨x1,x2,x3,n,e1,e2,e3,e4,e5⟩:=SH;have E1:=Lib.hid e1;have E2:=Lib.hid e2;have E3:=Lib.hid e3;have E4:=Lib.hid e4;have E5:=Lib.hid e5;clear e1 e2 e3 e4 e5;have hP:=Fg w t;go_enter Tryz.func4,Tryz.ntmps4
 go_wp2_with fail
 refine hP.mono ?_;rintro e w1 ⟨A,rfl,t1,hr1,s1⟩;have hS:=Fh w1 t1 cf1 tK A 2 (hg.keep s1 id) kG OO hr1 (by decide)
 have hS:Calls Tryz.prog 6 #[.agg (cfC cf1 (.slice A 2 2)).toArray] w1 fun e w'=> ∃gw,e= .returned (.tuple #[pV gw,.bool true])/\ ∃t',gQ w' t' gw (Ci cf1 tK)/\ Stp SW w1 t1 w' t':=hS
 clear hP;go_wp2_with fail
 refine hS.mono ?_;rintro e w2 ⟨gw,rfl,t2,h2,s2⟩;have sA:=(s1.mono (S':=SW) fun _ h=>h.elim).trans s2 fun _ h=>h
 have hC:=CW w2 t2 gw _ x1 0 h2 E1.out;have hC:Calls Tryz.prog 7 #[pV gw,.agg #[.int .i64 1,.int .i64 0,.int .i64 0,.slice none 0 0,.slice none 0 0]] w2 fun e w'=>(∃v,e= .returned v)/\ ∃t',gQ w' t' gw x1/\ Stp SW w2 t2 w' t':=hC
 clear hS h2 hr1 s1 s2;go_wp2_with fail
 refine hC.mono ?_;rintro e w3 ⟨⟨v3,rfl⟩,t3,h3,s3⟩;have sB:=sA.trans s3 fun _ h=>h
 have hG:=Za ⟨#[47,115,116,97,116,117,115]⟩ none 0 0 [] w3 (Rd.nil _ _ _ _) (by decide) (by decide)
 clear hC sA s3;go_wp2_with fail
 refine hG.mono ?_;rintro e w4 ⟨A4,n4,c4,rfl,ho4,L4⟩;have hn4:n4=(MQ aX []).length:=by have:=ho4.1;rw[List.length_map,Nat.mul_one]at this;exact this.symm
 obtain⟨hc4,-,XA⟩:=ho4.rdS;have z4:=Stp.below L4 (fun _=>False) t3
 have h4:=h3.keep z4 (fun _ _ h=>h) id
 subst hn4;have hSe:=ZB w4 t3 gw x1 x2 0 (MQ aX []) A4 c4 h4 XA hc4 E2.out;have hSe:Calls Tryz.prog 7 #[pV gw,.agg #[.int .i64 2,.int .i64 0,.int .i64 0,.slice A4 (MQ aX []).length c4,.slice none 0 0]] w4 fun e w'=>(∃v,e= .returned v)/\ ∃t',gQ w' t' gw x2/\ Stp SW w4 t3 w' t':=hSe
 have sC:=sB.trans z4 fun _ h=>h.elim
 clear hG ho4 XA hc4 L4 z4 h3 h4 sB;go_wp2_with fail
 refine hSe.mono ?_;rintro e w5 ⟨⟨v5,rfl⟩,t5,h5,s5⟩;have sD:=sC.trans s5 fun _ h=>h
 have hRe:=ZC w5 t5 gw x2 x3 3 (by omega) (by omega) h5 E3.out
 have hRe:Calls Tryz.prog 7 #[pV gw,.agg #[.int .i64 9,.int .i64 0,.int .i64 3,.slice none 0 0,.slice none 0 0]] w5 fun e w'=>(∃v,e= .returned v)/\ ∃t',gQ w' t' gw x3/\ Stp SW w5 t5 w' t':=hRe
 clear hSe sC s5 h5;go_wp2_with fail
 refine hRe.mono ?_;rintro e w6 ⟨⟨v6,rfl⟩,t6,h6,s6⟩;have sE:=sD.trans s6 fun _ h=>h
 obtain⟨g,P,hb⟩:=h6;have hWi:=J9 w6 t6 gw x3 g P hb;obtain⟨L,hL⟩:=hb.s;have e5:=E5.out;simp only[NK,Bool.and_eq_true,Bool.not_eq_true',decide_eq_true_eq]at e5;obtain⟨q1,q2,q3,q4,q5,q6,q7,q8⟩:=e5;have hGo:=Zp w6 t6 1000 P.gn x3.s.net 0 n hL.net E4.out q1 q2 q3 (by omega)
 rw[q5]at hGo;have hGo:Calls Tryz.prog 11 #[pV P.gn,.int .i64 0] w6 fun e w'=> ∃v,e= .returned (.tuple #[v,.bool false])/\ OB w' w6.heap.size v n.got/\ Below w6.heap.size w6 w':=hGo
 obtain⟨R,hR⟩: ∃R,R=jX n.got [mP] 0 []:=⟨_,rfl⟩;rw[<- hR]at q6 q7 q8;obtain⟨l,m,er⟩:=R;simp only at q6 q7 q8;subst q7;obtain⟨r,rfl,r1,r2⟩: ∃r,l= [r]/\ r.st=200/\ r.b= [111,107,10]:=by
  split at q8
  ·rename_i y
   simp only[Bool.and_eq_true,decide_eq_true_eq]at q8;exact⟨y,rfl,q8.1,q8.2⟩
  ·exact absurd q8 (by simp)
 have HR:=Lib.hid hR;clear hR hRe sD q8 hb hL q1 q2 q3 q5;go_wp2_with fail
 refine hWi.mono ?_;rintro e w7 ⟨rfl,rfl⟩;go_wp2_with fail
 refine hGo.mono ?_;rintro e w7 ⟨v7,rfl,ho7,L7⟩;obtain⟨A7,c7,rfl,hc7,-,hr7⟩:=ho7.form;have LV:=aj (Below.refl w7.heap.size w7) (.cells #[.string ⟨#[71,69,84]⟩] 9);have hmR:Rd (w7.alloc (.cells #[.string ⟨#[71,69,84]⟩] 9)) (w7.alloc (.cells #[.string ⟨#[71,69,84]⟩] 9)).heap.size 1 (some ⟨w7.heap.size,0,none⟩) 1 ([mP].map tv):=(Rd.new w7 _ rfl ([mP].map tv) 9 1 1 rfl).more (by simp)
 have hRp:=KF A7 c7 n.got (some ⟨w7.heap.size,0,none⟩) 1 [mP] (w7.alloc (.cells #[.string ⟨#[71,69,84]⟩] 9)) ((hr7.ah (Nat.le_refl _) LV).more LV.size) hc7 q4 hmR (Nat.le_refl _) (by decide)
 rw[<- HR.out]at hRp;have L67:=stepW L7 LV;clear hr7 ho7 hmR hGo hWi LV L7;go_wp2_with fail
 refine hRp.mono ?_;rintro e w8 ⟨A8,c8,l8,rfl,hm8,hl8,hR8,L8⟩;obtain⟨y,rfl,hy⟩: ∃y,l8= [y]/\ y.r=r:=by
  match l8,hm8 with
  | [y],h=>exact⟨y,rfl,by simpa using h⟩
 have hrq:=hR8.rq y (by simp)
 obtain⟨b8,o8,rfl,hb8,hx8⟩:=hR8.rd.2 (by simp)
 subst hy;have y0:w8.cell? ⟨b8,o8,none⟩=some (.int .i64 200):=by
  have:=hx8 0 (.int .i64 y.r.st) rfl;rw[r1]at this;exact this
 have y2:w8.cell? ⟨b8,o8+2,none⟩=some (.slice y.ab 3 y.cb):=by
  have:=hx8 2 (.slice y.ab y.r.b.length y.cb) rfl;rw[r2]at this;exact this
 have hcv:(convert 33 33 (.slice (some ⟨w8.heap.size,0,none⟩) 3 3)).run Tryz.prog (w8.alloc (.cells #[.int .u8 111,.int .u8 107,.int .u8 10] 5))= .ok (.slice (some ⟨w8.heap.size,0,none⟩) 3 3) (w8.alloc (.cells #[.int .u8 111,.int .u8 107,.int .u8 10] 5 (3,4))):=Lib.run_convert_bytes_const w8 _ _ #[.int .u8 111,.int .u8 107,.int .u8 10] 3 3 Tryz.underlying33 Tryz.underlying5;have LA:=aj (Below.refl w8.heap.size w8) (.cells #[.int .u8 111,.int .u8 107,.int .u8 10] 5 (3,4));have hb2:Rd (w8.alloc (.cells #[.int .u8 111,.int .u8 107,.int .u8 10] 5 (3,4))) (w8.alloc (.cells #[.int .u8 111,.int .u8 107,.int .u8 10] 5 (3,4))).heap.size 1 (some ⟨w8.heap.size,0,none⟩) 3 (([111,107,10]:Bs).map bv):=(Rd.XZ w8 _ rfl (([111,107,10]:Bs).map bv) 5 (3,4) 3 1 (by decide)).more (by simp)
 have hb1:=(hrq.rb.ah (Nat.le_refl _) LA).more LA.size;have hl3:y.r.b.length=3:=by rw[r2];rfl
 rw[hl3]at hb1;have hSm:=XD y.ab 3 y.cb y.r.b (some ⟨w8.heap.size,0,none⟩) 3 3 [111,107,10] _ hb1 hb2 (by decide)
 rw[r2,decide_eq_true rfl]at hSm;have hend:=(stepW L8 LA);subst q6;clear hx8 hR8 hrq hb1 hb2 hl3 hRp hm8 HR r1 r2 E1 E2 E3 E4 E5;go_wp2_with fail
 refine hSm.mono ?_;rintro e w9 ⟨rfl,L9⟩;go_wp2_with fail
 go_ret
 exact⟨rfl,t6,(sE.trans (Stp.below L67 (fun _=>False) t6) fun _ h=>h.elim).trans (Stp.below (stepW hend L9) (fun _=>False) t6) fun _ h=>h.elim⟩
theorem SI (w:World) (t:Nat-> Nat) (gw:Nat) (x:WlS) (h:gQ w t gw x): ∃g,w.cell? ⟨gw,0,none⟩=some (pV g)/\
 Calls Tryz.prog 8 #[pV g] w fun e w'=>(∃u1 u2 u3 u5 u6 u7 u8 u9 u10 u11 u12 u13 u14,e= .returned (.agg #[nV x.s.accepted,u1,u2,u3,nV x.s.failed,u5,u6,u7,u8,u9,u10,u11,u12,u13,u14]))/\ ∃t',gQ w' t' gw x/\ Stp SW w t w' t':=by
 obtain⟨g,P,hb⟩:=h;obtain⟨L,hL⟩:=hb.s;refine⟨g,hb.b.b.cell 0,(SB w t g x.s P L hL).mono ?_⟩;rintro e w' ⟨⟨a,b,rfl⟩,t',h1,s1⟩;exact⟨⟨_,_,_,_,_,_,_,_,_,_,_,_,_,rfl⟩,t',⟨g,P,hb.b.keep s1 id,⟨L,h1⟩⟩,s1.mono fun _ h=>h.elim⟩
theorem jI (w:World) (t:Nat-> Nat) (gw:Nat) (x:WlS) (F G:Nat) (h:gQ w t gw x) (hF:x.s.failed=F) (hG:x.s.accepted=G): ∃g,w.cell? ⟨gw,0,none⟩=some (pV g)/\
 Calls Tryz.prog 8 #[pV g] w fun e w'=>(∃u1 u2 u3 u5 u6 u7 u8 u9 u10 u11 u12 u13 u14,e= .returned (.agg #[nV G,u1,u2,u3,nV F,u5,u6,u7,u8,u9,u10,u11,u12,u13,u14]))/\ ∃t',gQ w' t' gw x/\ Stp SW w t w' t':=by
 subst hF hG;exact SI w t gw x h
theorem XF (k:Nat) (hk:k=4\/ k=0) (v0 v1 v2 v3 v4 v5 v6 v7 v8 v9 v10 v11 v12 v13 v14:Value) (w:World):(Instr.field 38 (.agg #[v0,v1,v2,v3,v4,v5,v6,v7,v8,v9,v10,v11,v12,v13,v14]) k).run Tryz.prog w= .ok (if k=4 then v4 else v0) w:=by
 rcases hk with rfl|rfl
 ·rfl
 ·rfl
theorem Stp.aa3 {w w':World} {t':Nat-> Nat} (h:Stp (fun y=>8<= y) w (fun _=>0) w' t'):Below w.heap.size w w':=
 (h.drop (S':=fun _=>False) fun k hk (hS:8<= 0)=>by omega).toBelow
theorem Stp.world {w w':World} {t':Nat-> Nat} (h:Stp SW w (fun _=>0) w' t'):Below w.heap.size w w':=
 (h.drop (S':=fun _=>False) fun k hk (hS:SW 0)=>by omega).toBelow
theorem aa4 (i j:Nat) (hi:i<= 20) (hj:j<= 200):GY (cfB i j):=⟨kG.a0,kG.a1,kG.a2,kG.a3,kG.a4,kG.a5,kG.a6,kG.a7,kG.a8,kG.a9,kG.a10,by show i<= _;omega,by show j<= _;omega⟩
theorem tu (s:SrS) (m T n:Nat) (r:SrS×Nat) (h:kD s (T+n)=some r) (h1:T<= 1000000) (h2:n<= 1000000):MX ⟨s,m,T⟩ n=some ⟨r.1,m,T+n⟩:=by
 have e:T+min n (ticks-T)=T+n:=by simp only[ticks];omega
 show aV (decide (T<= 1000000)&&decide (n<= 1000000)) ((kD s (T+min n (ticks-T))).map fun r=>(⟨r.1,m,T+min n (ticks-T)⟩:WlS))=_
 rw[e,h,decide_eq_true h1,decide_eq_true h2];rfl
theorem law_Backoff (a b c:Int) (W:World) (h10:Tab10 W) (hml:ML W) (htz:TZ W):
 Calls Tryz.prog 3 #[.int .i64 a,.int .i64 b,.int .i64 c] W fun e w'=>e= .returned (.bool true)/\ Below W.heap.size W w':=by
 have F4: ∀(v0 v1 v2 v3 v4 v5 v6 v7 v8 v9 v10 v11 v12 v13 v14:Value) (w:World),(Instr.field 38 (.agg #[v0,v1,v2,v3,v4,v5,v6,v7,v8,v9,v10,v11,v12,v13,v14]) 4).run Tryz.prog w= .ok v4 w:=fun v0 v1 v2 v3 v4 v5 v6 v7 v8 v9 v10 v11 v12 v13 v14 w=>XF 4 (.inl rfl) v0 v1 v2 v3 v4 v5 v6 v7 v8 v9 v10 v11 v12 v13 v14 w
 have F0: ∀(v0 v1 v2 v3 v4 v5 v6 v7 v8 v9 v10 v11 v12 v13 v14:Value) (w:World),(Instr.field 38 (.agg #[v0,v1,v2,v3,v4,v5,v6,v7,v8,v9,v10,v11,v12,v13,v14]) 0).run Tryz.prog w= .ok v0 w:=fun v0 v1 v2 v3 v4 v5 v6 v7 v8 v9 v10 v11 v12 v13 v14 w=>XF 0 (.inr rfl) v0 v1 v2 v3 v4 v5 v6 v7 v8 v9 v10 v11 v12 v13 v14 w
 have hg:=GL.new hml h10 htz;have hK:=Fj W (fun _=>0) hg
 go_enter Tryz.func3,Tryz.ntmps3
 by_cases q0:a<1
 ·go_wp2_with fail
  refine hK.mono ?_;rintro e w1 ⟨rfl,t1,s1⟩;go_wp2_with fail
  go_ret
  exact⟨rfl,s1.world⟩
 by_cases q1:20<a
 ·go_wp2_with fail
  refine hK.mono ?_;rintro e w1 ⟨rfl,t1,s1⟩;go_wp2_with fail
  go_ret
  exact⟨rfl,s1.world⟩
 by_cases q2:b<1
 ·go_wp2_with fail
  refine hK.mono ?_;rintro e w1 ⟨rfl,t1,s1⟩;go_wp2_with fail
  go_ret
  exact⟨rfl,s1.world⟩
 by_cases q3:200<b
 ·go_wp2_with fail
  refine hK.mono ?_;rintro e w1 ⟨rfl,t1,s1⟩;go_wp2_with fail
  go_ret
  exact⟨rfl,s1.world⟩
 by_cases q4:c<1
 ·go_wp2_with fail
  refine hK.mono ?_;rintro e w1 ⟨rfl,t1,s1⟩;go_wp2_with fail
  go_ret
  exact⟨rfl,s1.world⟩
 by_cases q5:8<c
 ·go_wp2_with fail
  refine hK.mono ?_;rintro e w1 ⟨rfl,t1,s1⟩;go_wp2_with fail
  go_ret
  exact⟨rfl,s1.world⟩
 obtain⟨i,rfl⟩: ∃i:Nat,a=(i:Int):=⟨a.toNat,by omega⟩
 obtain⟨j,rfl⟩: ∃j:Nat,b=(j:Int):=⟨b.toNat,by omega⟩
 obtain⟨k,rfl⟩: ∃k:Nat,c=(k:Int):=⟨c.toNat,by omega⟩
 have i1:1<= i/\ i<= 20:=by omega
 have j1:1<= j/\ j<= 200:=by omega
 have k1:1<= k/\ k<= 8:=by omega
 clear hK;have hP:=Fg W (fun _=>0)
 go_wp2_with fail
 refine hP.mono ?_;rintro e w1 ⟨A,rfl,t1,hr1,s1⟩;clear hP;go_upto_region 4 with(fail)
 have z1:=Stp.alloc w1 t1 (fun _=>False) (.cells #[nV cf1.jE,nV cf1.jF,nV cf1.pipe,nV cf1.jg,nV cf1.idle,nV cf1.head,nV cf1.body,nV cf1.write,nV cf1.bC,nV cf1.jR,nV cf1.gJ,nV cf1.base,nV cf1.cap,.bool cf1.refuse,.bool cf1.dV,.slice A 2 2] 25) 9
 have b1:=BT.new' w1 t1 9 w1.heap.size rfl 25 #[nV cf1.jE,nV cf1.jF,nV cf1.pipe,nV cf1.jg,nV cf1.idle,nV cf1.head,nV cf1.body,nV cf1.write,nV cf1.bC,nV cf1.jR,nV cf1.gJ,nV cf1.base,nV cf1.cap,.bool cf1.refuse,.bool cf1.dV,.slice A 2 2];obtain⟨V,hV⟩: ∃W,W=w1.alloc (.cells #[nV cf1.jE,nV cf1.jF,nV cf1.pipe,nV cf1.jg,nV cf1.idle,nV cf1.head,nV cf1.body,nV cf1.write,nV cf1.bC,nV cf1.jR,nV cf1.gJ,nV cf1.base,nV cf1.cap,.bool cf1.refuse,.bool cf1.dV,.slice A 2 2] 25):=⟨_,rfl⟩;obtain⟨tV,htV⟩: ∃y,y=upT t1 w1 9:=⟨_,rfl⟩;obtain⟨B,hB⟩: ∃y,y=w1.heap.size:=⟨_,rfl⟩;rw[<- hV,<- htV]at z1 b1;rw[<- hB]at b1⊢;rw[<- hV];clear hV htV hB;have k0:V.cell? ⟨B,0,none⟩=some (nV cf1.jE):=b1.b.cell 0;have kk1:V.cell? ⟨B,1,none⟩=some (nV cf1.jF):=b1.b.cell 1;have k2:V.cell? ⟨B,2,none⟩=some (nV cf1.pipe):=b1.b.cell 2;have k3:V.cell? ⟨B,3,none⟩=some (nV cf1.jg):=b1.b.cell 3;have k4:V.cell? ⟨B,4,none⟩=some (nV cf1.idle):=b1.b.cell 4;have k5:V.cell? ⟨B,5,none⟩=some (nV cf1.head):=b1.b.cell 5;have k6:V.cell? ⟨B,6,none⟩=some (nV cf1.body):=b1.b.cell 6;have k7:V.cell? ⟨B,7,none⟩=some (nV cf1.write):=b1.b.cell 7;have k8:V.cell? ⟨B,8,none⟩=some (nV cf1.bC):=b1.b.cell 8;have k9:V.cell? ⟨B,9,none⟩=some (nV cf1.jR):=b1.b.cell 9;have k10:V.cell? ⟨B,10,none⟩=some (nV cf1.gJ):=b1.b.cell 10;have k11:V.cell? ⟨B,11,none⟩=some (nV cf1.base):=b1.b.cell 11;have k12:V.cell? ⟨B,12,none⟩=some (nV cf1.cap):=b1.b.cell 12;have k13:V.cell? ⟨B,13,none⟩=some (.bool cf1.refuse):=b1.b.cell 13;have k14:V.cell? ⟨B,14,none⟩=some (.bool cf1.dV):=b1.b.cell 14;have k15:V.cell? ⟨B,15,none⟩=some (.slice A 2 2):=b1.b.cell 15;have f11:V.frozen? ⟨B,11,none⟩=false:=b1.b.frozen 11;have f12:V.frozen? ⟨B,12,none⟩=false:=b1.b.frozen 12;obtain⟨b2,z2⟩:=b1.aH 11 (nV i);obtain⟨b3,z3⟩:=b2.aH 12 (nV j);have zz:=((s1.trans z1 fun _ h=>h).mono (S':=fun y=>y=9) fun _ h=>h.elim).trans (z2.trans z3 fun _ h=>h) fun _ h=>h
 have z23:=z2.trans z3 fun _ h=>h
 have r3:=(hr1.keep z1 id).keep z23 (by omega)
 have g3:=hg.keep zz (by omega)
 have hS:=Fh _ tV (cfB i j) tK A 2 g3 (aa4 i j i1.2 j1.2) OO r3 (by decide)
 have hS:Calls Tryz.prog 6 #[.agg #[nV cf1.jE,nV cf1.jF,nV cf1.pipe,nV cf1.jg,nV cf1.idle,nV cf1.head,nV cf1.body,nV cf1.write,nV cf1.bC,nV cf1.jR,nV cf1.gJ,nV i,nV j,.bool cf1.refuse,.bool cf1.dV,.slice A 2 2]] ((V.setCell ⟨B,11,none⟩ (nV i)).setCell ⟨B,12,none⟩ (nV j)) fun e w'=> ∃gw,e= .returned (.tuple #[pV gw,.bool true])/\ ∃t',gQ w' t' gw (Ci (cfB i j) tK)/\ Stp SW ((V.setCell ⟨B,11,none⟩ (nV i)).setCell ⟨B,12,none⟩ (nV j)) tV w' t':=hS
 clear r3 g3 b1 b2 b3 z1 z2 z3 z23 s1 hr1;go_wp2_with fail
 refine hS.mono ?_;rintro e w2 ⟨gw,rfl,t2,h2,s2⟩;obtain⟨x1,hx1,hin⟩:=WZ i j k;have hC:=CW w2 t2 gw _ x1 0 h2 hx1;have hC:Calls Tryz.prog 7 #[pV gw,.agg #[.int .i64 1,.int .i64 0,.int .i64 0,.slice none 0 0,.slice none 0 0]] w2 fun e w'=>(∃v,e= .returned v)/\ ∃t',gQ w' t' gw x1/\ Stp SW w2 t2 w' t':=hC
 clear hS f11 f12 k0 kk1 k2 k3 k4 k5 k6 k7 k8 k9 k10 k11 k12 k13 k14 k15;go_wp2_with fail
 refine hC.mono ?_;rintro e w3 ⟨⟨v3,rfl⟩,t3,h3,s3⟩;have hI:=Sz w3 t3 gw x1 k h3;rw[hin]at hI;clear hC h2;go_wp2_with fail
 refine hI.mono ?_;rintro e w4 ⟨⟨v4,rfl⟩,t4,h4,s4⟩;have hT0:=ES i j 0 0 0 0 (k-1) true 0 (by omega) (by omega) (Nat.le_refl _) (Nat.le_refl _) (by omega) (by omega) (by omega)
 rw[show k-1+1=k by omega]at hT0
 have hw0:=tu _ 1 0 0 _ hT0 (by omega) (by omega)
 have hT:=zF w4 t4 gw _ _ 0 h4 hw0;have hT:Calls Tryz.prog 7 #[pV gw,.agg #[.int .i64 7,.int .i64 0,.int .i64 0,.slice none 0 0,.slice none 0 0]] w4 fun e w'=>(∃v,e= .returned v)/\ ∃t',gQ w' t' gw ⟨bk i j 1 (min i j) (0+min i j) 0 (k-1) true,1,0⟩/\ Stp SW w4 t4 w' t':=by
  rw[Nat.min_comm i j];exact hT
 have sA:Stp (fun y=>8<= y) W (fun _=>0) w4 t4:=(((zz.mono (S':=fun y=>8<= y) fun y (h:y=9)=>(show 8<= y by omega)).trans s2 fun y (h:SW y)=>(show 8<= y by omega)).trans s3 fun y (h:SW y)=>(show 8<= y by omega)).trans s4 fun y (h:SW y)=>(show 8<= y by omega)
 clear hI h3 h4 hT0 hw0 s2 s3 s4 zz hin hx1;go_wp2_with fail
 refine hT.mono ?_;rintro e w5 ⟨⟨v5,rfl⟩,t5,h5,s5⟩;have sB:=sA.trans s5 fun y (h:SW y)=>(show 8<= y by omega)
 clear hT sA s5;go_wp2_with fail
 go_loopw [10,11] (fun v10 v11 wr=> ∃(n d T:Nat) (tr:Nat-> Nat),v10= .int .i64 (d:Int)/\ v11= .int .i64 (n:Int)/\ 1<= n/\ n<= k+1/\ 1<= d/\ d<= 20*2 ^ (n-1)/\ ((n<= k/\ T<= 200*n/\ gQ wr tr gw ⟨bk i j n (min d j) (T+min d j) T (k-n) true,1,T⟩)\/ (n=k+1/\ ∃x,gQ wr tr gw x/\ x.s.failed=k/\ x.s.accepted=1))/\ Stp (fun y=>8<= y) W (fun _=>0) wr tr) (fun _ v11 _=>k+1- (intOf v11).toNat)
 case atStart=>exact⟨1,i,0,t5,rfl,rfl,Nat.le_refl _,by omega,i1.1,by simpa using i1.2,.inl ⟨k1.1,by omega,h5⟩,sB⟩
 case round=>
  clear h5 sB;obtain⟨n,d,T,tr,rfl,rfl,n1,n2,d1,d2,hst,sr⟩:=hrel;rcases hst with⟨hnk,hT,hx⟩| ⟨rfl,x,hx,hxf,hxa⟩
  ·have hp:2 ^ (n-1)<= 2 ^ 7:=Nat.pow_le_pow_right (by omega) (by omega)
   have hp2:2 ^ (n+1-1)=2*2 ^ (n-1):=by rw[show n+1-1=n-1+1 by omega,Nat.pow_succ,Nat.mul_comm]
   obtain⟨q,hq⟩: ∃q,q=2 ^ (n-1):=⟨_,rfl⟩;rw[<- hq]at hp hp2 d2;have hp7:q<= 128:=hp;have HP2:=Lib.hid hp2;clear hp hp2 hq;obtain⟨N,hN⟩: ∃N,N=min d j:=⟨_,rfl⟩;rw[<- hN]at hx;have hN1:1<= N/\ N<= 200:=by omega
   have hmin:min (d:Int) (j:Int)=(N:Int):=by omega
   have HN:=Lib.hid hN;clear hN;obtain⟨g5,j5,hC5⟩:=jI wr tr gw _ n 0 hx rfl rfl;go_wp2_with fail
   refine hC5.mono ?_;rintro e w6 ⟨⟨u1,u2,u3,u5',u6',u7',u8',u9',u10',u11',u12',u13',u14',rfl⟩,t6,h6,s6⟩;have sA:=sr.trans s6 fun y (h:SW y)=>(show 8<= y by omega)
   obtain⟨g6,j6,hC6⟩:=jI w6 t6 gw _ n 0 h6 rfl rfl;clear hC5 hx sr s6 j5;go_wp2_with fail
   refine hC6.mono ?_;rintro e w7 ⟨⟨y1,y2,y3,y5,y6,y7,y8,y9,y10,y11,y12,y13,y14,rfl⟩,t7,h7,s7⟩;have sB:=sA.trans s7 fun y (h:SW y)=>(show 8<= y by omega)
   clear hC6 h6 sA s7 j6
   go_upto_if 85 with(fail)
   go_cut [] (fun wx=> ∃t8 rd,gQ wx t8 gw ⟨bk i j n N (T+N) (T+(N-1)) (k-n) rd,1,T+(N-1)⟩/\ Stp (fun y=>8<= y) W (fun _=>0) wx t8)
   case first=>
    rcases Nat.lt_or_ge 1 N with hN2|hN2
    ·have hI:(1:Int)< (N:Int):=by omega
     have hw:=tu _ 1 T (N-1) _ (QW i j n N (T+N) T (k-n) true (T+(N-1)) (by omega) (by omega) (by omega) (by omega)) (by omega) (by omega)
     have hTn:=zF w7 t7 gw _ _ (N-1) h7 hw;rw[show nV (N-1)=Value.int .i64 ((N:Int)-1) by rw[nV,show((N-1:Nat):Int)=(N:Int)-1 by omega]]at hTn
     have w1':IntKind.i64.wrap ((N:Int)-1)=(N:Int)-1:=IntWalk.i64_in _ (by omega)
     clear hw h7;go_wp2_with fail
     refine hTn.mono ?_;rintro e w8 ⟨⟨v8,rfl⟩,t8,h8,s8⟩;have sC:=sB.trans s8 fun y (h:SW y)=>(show 8<= y by omega)
     clear hTn sB s8;obtain⟨gA,jA,hCA⟩:=jI w8 t8 gw _ n 0 h8 rfl rfl;go_wp2_with fail
     refine hCA.mono ?_;rintro e w9 ⟨⟨pA1,pA2,pA3,pA5,pA6,pA7,pA8,pA9,pA10,pA11,pA12,pA13,pA14,rfl⟩,t9,h9,xA⟩;have sD:=sC.trans xA fun y (h:SW y)=>(show 8<= y by omega)
     clear hCA h8 xA jA;obtain⟨gB,jB,hCB⟩:=jI w9 t9 gw _ n 0 h9 rfl rfl;go_wp2_with fail
     refine hCB.mono ?_;rintro e w10 ⟨⟨pB1,pB2,pB3,pB5,pB6,pB7,pB8,pB9,pB10,pB11,pB12,pB13,pB14,rfl⟩,t10,h10,xB⟩;have sE:=sD.trans xB fun y (h:SW y)=>(show 8<= y by omega)
     clear hCB h9 sD xB jB;go_wp2_with fail
     go_meet
     case rel=>exact⟨t10,false,h10,sE⟩
    ·obtain rfl:N=1:=by omega
     go_wp2_with fail
     go_meet
     case rel=>exact⟨t7,true,h7,sB⟩
   case rest=>
    clear h7 sB;obtain⟨t8,rd,h8,sC⟩:=hcut;have w2':IntKind.i64.wrap (2*(d:Int))=2*(d:Int):=IntWalk.i64_in _ (by omega)
    rcases Nat.lt_or_ge n k with hk|hk
    ·have hTf:=ES i j n N (T+N) (T+(N-1)) (k-n-1) rd (T+(N-1)+1) (by omega) (by omega) (by omega) (by omega) (by omega) (by omega) (by omega)
     rw[show k-n-1+1=k-n by omega,show dlB i j n N=min (2*d) j by rw[dlB,if_neg (by omega)];have:=HN.out;omega]at hTf
     have hw:=tu _ 1 (T+(N-1)) 1 _ hTf (by omega) (by omega)
     have hTn:=zF wc t8 gw _ _ 1 h8 hw;have hTn:Calls Tryz.prog 7 #[pV gw,.agg #[.int .i64 7,.int .i64 0,.int .i64 1,.slice none 0 0,.slice none 0 0]] wc fun e w'=>(∃v,e= .returned v)/\ ∃t',gQ w' t' gw ⟨bk i j (n+1) (min (2*d) j) (T+(N-1)+1+min (2*d) j) (T+(N-1)+1) (k-n-1) true,1,T+(N-1)+1⟩/\ Stp SW wc t8 w' t':=hTn
     clear hTf hw h8;go_wp2_with fail
     refine hTn.mono ?_;rintro e w11 ⟨⟨v11,rfl⟩,t11,h11,s11⟩;have sF:=sC.trans s11 fun y (h:SW y)=>(show 8<= y by omega)
     go_wp2_with fail
     go_roundw
     case rel=>exact⟨n+1,2*d,T+(N-1)+1,t11,by go_num,by go_num,by omega,by omega,by omega,by rw[HP2.out];omega,.inl ⟨by omega,by omega,by rw[show k- (n+1)=k-n-1 by omega];exact h11⟩,sF⟩
     case measure=>simp[intOf];omega
    ·obtain rfl:n=k:=by omega
     obtain⟨s',hTt,hsf,hsa⟩:=QX i j n N (T+N) (T+(N-1)) rd (T+(N-1)+1) (by omega) (by omega) (by omega) (by omega) (by omega) (by omega)
     rw[Nat.sub_self]at h8;have hw:=tu _ 1 (T+(N-1)) 1 _ hTt (by omega) (by omega)
     have hTn:=zF wc t8 gw _ _ 1 h8 hw;have hTn:Calls Tryz.prog 7 #[pV gw,.agg #[.int .i64 7,.int .i64 0,.int .i64 1,.slice none 0 0,.slice none 0 0]] wc fun e w'=>(∃v,e= .returned v)/\ ∃t',gQ w' t' gw ⟨s',1,T+(N-1)+1⟩/\ Stp SW wc t8 w' t':=hTn
     have HSF:=Lib.hid hsf;have HSA:=Lib.hid hsa;clear hTt hw h8 hsf hsa;go_wp2_with fail
     refine hTn.mono ?_;rintro e w11 ⟨⟨v11,rfl⟩,t11,h11,s11⟩;have sF:=sC.trans s11 fun y (h:SW y)=>(show 8<= y by omega)
     go_wp2_with fail
     go_roundw
     case rel=>exact⟨n+1,2*d,T+(N-1)+1,t11,by go_num,by go_num,by omega,by omega,by omega,by rw[HP2.out];omega,.inr ⟨rfl,_,h11,HSF.out,HSA.out⟩,sF⟩
     case measure=>simp[intOf]
  ·have hkk: ¬((k:Int)+1<=(k:Int)):=by omega
   have HXF:=Lib.hid hxf;have HXA:=Lib.hid hxa;clear hxf hxa;obtain⟨gA,jA,hCA⟩:=jI wr tr gw _ k 1 hx HXF.out HXA.out;go_wp2_with fail
   refine hCA.mono ?_;rintro e w9 ⟨⟨pA1,pA2,pA3,pA5,pA6,pA7,pA8,pA9,pA10,pA11,pA12,pA13,pA14,rfl⟩,t9,h9,xA⟩;have sD:=sr.trans xA fun y (h:SW y)=>(show 8<= y by omega)
   clear hCA hx xA jA;obtain⟨gB,jB,hCB⟩:=jI w9 t9 gw _ k 1 h9 HXF.out HXA.out;go_wp2_with fail
   refine hCB.mono ?_;rintro e w10 ⟨⟨pB1,pB2,pB3,pB5,pB6,pB7,pB8,pB9,pB10,pB11,pB12,pB13,pB14,rfl⟩,t10,h10,xB⟩;have sE:=sD.trans xB fun y (h:SW y)=>(show 8<= y by omega)
   clear hCB h9 sD xB jB;have hKn:=Fj w10 t10 (hg.keep sE (by omega))
   go_wp2_with fail
   refine hKn.mono ?_;rintro e w12 ⟨rfl,t12,s12⟩;go_wp2_with fail
   go_ret
   exact⟨rfl,(sE.trans s12 fun y (h:SW y)=>(show 8<= y by omega)).aa3⟩
end Go.Proofs.YtdmondfpepbniaaGreatDoor
