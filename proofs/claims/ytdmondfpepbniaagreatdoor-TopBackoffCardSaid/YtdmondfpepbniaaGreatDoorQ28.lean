/- Part 28 of the proof: VwE ReJ VzC. -/
import Derived.Test.YtdmondfpepbniaaGreatDoorQ23
import Derived.Test.YtdmondfpepbniaaGreatDoorQ24
import Derived.Test.YtdmondfpepbniaaGreatDoorQ26
import Derived.Test.YtdmondfpepbniaaGreatDoorQ27
namespace Go.Proofs.YtdmondfpepbniaaGreatDoor
open Go.RowKit
set_option maxRecDepth 100000
set_option maxHeartbeats 4000000
set_option linter.all false
theorem WW (l m:List Hn):oZ (l++m)=oZ l++oZ m:=by simp[oZ]
theorem JO:(Tryz.prog.info? 72).map (fun i=>(i.zero,i.size,i.bytes))=some (some (.agg #[.int .i64 0,.int .i64 0]),2,16):=by kernel_rfl
def yZ (s:WhS) (was lvl:Nat):List Hn:=(List.range lvl).flatMap (gZ s was)
theorem JQ (s:WhS) (was:Nat) (h1:was<4096) (h2:s.now<4096):iy s was=yZ s was 4:=by
 have e1:was >>> 24=0:=by rw[Nat.shiftRight_eq_div_pow];omega
 have e2:s.now >>> 24=0:=by rw[Nat.shiftRight_eq_div_pow];omega
 simp[iy,yZ,e1,e2,List.range,List.range.loop]
theorem ER (s:WhS) (was lvl:Nat):yZ s was (lvl+1)=yZ s was lvl++gZ s was lvl:=by
 rw[yZ,List.range_succ,List.flatMap_append];simp[yZ]
theorem yu {α:Type} (f:α-> List Hn): ∀l:List α,(∀k∈l,(f k).length<= 1)->(l.flatMap f).length<= l.length
 | [],_=>Nat.le_refl _
 |x::l,h=>by
  have h1:=h x (List.mem_cons_self ..);have h2:=yu f l fun k hk=>h k (List.mem_cons_of_mem _ hk)
  rw[List.flatMap_cons,List.length_append,List.length_cons];omega
theorem yT (was now lvl:Nat):(fZ was now lvl).length<= 64:=by rw[fZ,List.length_map,List.length_range];omega
theorem JR (s:WhS) (was:Nat) (hone: ∀lvl,lvl<4-> ∀k∈fZ was s.now lvl,(s.lists lvl k).length<= 1): ∀lvl,lvl<= 4->(yZ s was lvl).length<= 64*lvl
 |0,_=>Nat.le_refl _
 |lvl+1,h=>by
  have h1:=JR s was hone lvl (by omega)
  have h2:=yu (fun k=>(s.lists lvl k).map (·.1)) (fZ was s.now lvl) fun k hk=>by rw[List.length_map];exact hone lvl (by omega) k hk
  have h3:=yT was s.now lvl;rw[ER,List.length_append,gZ];omega
theorem Nb (s:WhS) (was lvl F N n:Nat) (hF:F=was >>>(6*lvl)) (hN:N=s.now >>>(6*lvl)) (hn:n=min 64 (N-F+1)) (hl:lvl<4) (hone: ∀lvl,lvl<4-> ∀k∈fZ was s.now lvl,(s.lists lvl k).length<= 1):
 ∃G:Nat-> List Hn,G 0=yZ s was lvl/\ (∀i,i<n-> G (i+1)=G i++(s.lists lvl ((F+i) % 64)).map (·.1)/\ (s.lists lvl ((F+i) % 64)).length<= 1)/\ G n=yZ s was (lvl+1)/\ ∀i,(G i).length<= 1000:=by
 have hs:fZ was s.now lvl=(List.range n).map fun i=>(F+i) % 64:=by rw[fZ,<- hF,<- hN,<- hn]
 have hat: ∀i,i<n->(fZ was s.now lvl)[i]? = some ((F+i) % 64):=fun i hi=>by rw[hs,List.getElem?_map,List.getElem?_range hi];rfl
 have hlen:(fZ was s.now lvl).length=n:=by rw[hs];simp
 refine⟨fun i=>yZ s was lvl++((fZ was s.now lvl).take i).flatMap fun k=>(s.lists lvl k).map (·.1),by simp,fun i hi=>⟨?_,hone lvl hl _ (List.mem_of_getElem? (hat i hi))⟩,?_,fun i=> ?_⟩
 ·simp only
  rw[List.take_add_one,hat i hi];simp
 ·simp only
  rw[<- hlen,List.take_length,ER,gZ]
 ·simp only
  have h1:=JR s was hone lvl (by omega)
  have h2:=yu (fun k=>(s.lists lvl k).map (·.1)) ((fZ was s.now lvl).take i) fun k hk=>by rw[List.length_map];exact hone lvl hl k (List.mem_of_mem_take hk)
  have h3:=yT was s.now lvl;rw[List.length_take]at h2;rw[List.length_append];omega
theorem QV (w:World) (t:Nat-> Nat) (m g:Nat) (s:WhS) (was:Nat) (h:WhK w t m g s) (h1:was<= s.now) (h2:s.now<4096) (hm:m+340<= 1000000)
 (hone: ∀lvl,lvl<4-> ∀k∈fZ was s.now lvl,(s.lists lvl k).length<= 1):
 Calls Tryz.prog 116 #[pV g,nV was] w fun e w'=> ∃v,e= .returned v/\ ∃τ t',1000000<= τ/\ RT w' t' τ 72 2 v (iy s was).length (oZ (iy s was))/\ Stp (fun _=>False) w t w' t':=by
 rw[JQ s was (by omega) h2]
 obtain⟨gs,bt,LB,T,h⟩:=h;obtain⟨τ,hτ,hfr⟩:=dW w t;go_enter Tryz.func116,Tryz.ntmps116
 go_wp2_with fail
 go_loopw [5,12] (fun v z wr=> ∃(lvl:Nat) (tr:Nat-> Nat),z= .int .i64 (lvl:Int)/\ lvl<= 4/\ RT wr tr τ 72 2 v (yZ s was lvl).length (oZ (yZ s was lvl))/\ Stp (fun x=>τ<= x) w t wr tr) (fun _ z _=>5- (intOf z).toNat)
 case atStart=>exact⟨0,t,rfl,by omega,RT.nil _ _ _ _ _,Stp.refl _ _ _⟩
 case round=>
  obtain⟨lvl,tr,rfl,hlv,hE,sr⟩:=hrel;have hB:=h.keep sr fun y hy=>by omega
  obtain⟨j0,j1,j2,j3⟩:=hB.cs;have hl5:(lvl:Int)<5:=by omega
  rcases Nat.lt_or_ge lvl 4 with hl4|hl4;rotate_left
  ·obtain rfl:lvl=4:=by omega
   have e1:(was:Int) / 16777216=0:=by omega
   have e2:(s.now:Int) / 16777216=0:=by omega
   go_upto_region 5 with(fail)
   go_quiet (fail)
   go_wp2_with fail
   go_ret
   exact⟨_,rfl,τ,tr,hτ,hE.drewN _,(sr.drewN _).drop fun k hk hS=>by have:=hfr k hk;omega⟩
  ·obtain⟨F,hF⟩: ∃F,F=was >>>(6*lvl):=⟨_,rfl⟩
   obtain⟨N,hN⟩: ∃N,N=s.now >>>(6*lvl):=⟨_,rfl⟩;have hFN:F<= N:=by rw[hF,hN,Nat.shiftRight_eq_div_pow,Nat.shiftRight_eq_div_pow];exact Nat.div_le_div_right h1
   have hN2:N<4096:=by rw[hN,Nat.shiftRight_eq_div_pow];exact Nat.lt_of_le_of_lt (Nat.div_le_self _ _) h2
   have e1:(was:Int) / 2 ^ (6*lvl)=(F:Int):=by rw[hF,Nat.shiftRight_eq_div_pow];norm_cast
   have e2:(s.now:Int) / 2 ^ (6*lvl)=(N:Int):=by rw[hN,Nat.shiftRight_eq_div_pow];norm_cast
   have d4:((lvl:Int)==4)=false:=beq_false_of_ne (by omega)
   obtain⟨n,hn⟩: ∃n,n=min 64 (N-F+1):=⟨_,rfl⟩;have hnI:min (64:Int) ((N:Int)- (F:Int)+1)=(n:Int):=by omega
   have HF:=Lib.hid hF;have HN:=Lib.hid hN;have HnH:=Lib.hid hn;have hn0:0<n:=by omega
   have hn64:n<= 64:=by omega
   obtain⟨G,hG0,hGs,hGn,hGl⟩:=Nb s was lvl F N n hF hN hn hl4 hone;have HG0:=Lib.hid hG0;have HGn:=Lib.hid hGn;clear hF hN hn hG0 hGn;go_upto_region 5 with(fail)
   go_quiet (fail)
   go_wp2_with fail
   have b1:(0:Int)<=(was:Int) / 2 ^ (6*lvl):=by rw[e1];omega
   have b2:(was:Int) / 2 ^ (6*lvl)<= 4096:=by rw[e1];omega
   have E1:=Lib.hid e1;clear e1 e2;go_loopw [5,38] (fun v z w2=> ∃(i:Nat) (t2:Nat-> Nat),z= .int .i64 (i:Int)/\ i<= n/\ RT w2 t2 τ 72 2 v (G i).length (oZ (G i))/\ Stp (fun x=>τ<= x) w t w2 t2) (fun _ z _=>n- (intOf z).toNat)
   case atStart=>exact⟨0,tr,rfl,Nat.zero_le _,by rw[HG0.out];exact hE.drewN _,sr.drewN _⟩
   case round=>
    obtain⟨i,t2,rfl,hi,hE2,s2⟩:=hrel;rcases Nat.lt_or_ge i n with hin|hin;rotate_left
    ·obtain rfl:i=n:=by omega
     have d5:decide ((i:Int)< (i:Int))=false:=by simp
     go_wp2_with fail
     go_roundw
     case rel=>exact⟨lvl+1,t2,by go_num,by omega,by rw[<- HGn.out];exact hE2,s2⟩
     case measure=>simp[intOf];omega
    ·obtain⟨hg1,hg2⟩:=hGs i hin
     obtain⟨k,hk⟩: ∃k,k=(F+i) % 64:=⟨_,rfl⟩;have hk64:k<64:=by omega
     have hkI:((was:Int) / 2 ^ (6*lvl)+(i:Int)) % 64=(k:Int):=by rw[E1.out];omega
     rw[<- hk]at hg1 hg2;clear hk;have hB2:=h.keep s2 fun y hy=>by omega
     have c0:wr.cell? ⟨g,4+lvl*64+k,none⟩=some (.map (some (LB (lvl*64+k)))):=by rw[Nat.add_assoc];exact hB2.at_ _ (by omega)
     have hz:=hB2.z (lvl*64+k) (by omega)
     have x1:(lvl*64+k) / 64=lvl:=by omega
     have x2:(lvl*64+k) % 64=k:=by omega
     rw[x1,x2]at hz;obtain⟨l,hl⟩: ∃l,l=s.lists lvl k:=⟨_,rfl⟩;rw[<- hl]at hz hg1 hg2;clear x1 x2 hl;have hkl:(k:Int)<64:=by omega
     go_wp2_with (at_range;go_must (refine Au rfl _ 136 rfl Tryz.underlying136 hz rfl (τ+1) ?_;intro w3 hMR hS3;go_frame))
     have s3:=s2.trans (hS3 (fun x=>τ<= x)) fun _ h=>h
     have hE3:=hE2.keep (hS3 (fun _=>False)) id
     generalize upT t2 wr (τ+1)=t3 at*;have hz3:=hMR.mt;clear hS3 hE2 hB2 hz c0 s2 hkI;go_loopw [5] (fun v w4=> ∃(todo:List (Hn×Bool)) (t4:Nat-> Nat) (row:List Hn),MR w4 t4 (m+20+(lvl*64+k)) (τ+1) (LB (lvl*64+k)) wr.heap.size hnV iH Value.bool l todo/\ ((todo=l/\ row=G i)\/ (todo= []/\ row=G i++l.map (·.1)))/\ RT w4 t4 τ 72 2 v row.length (oZ row)/\ Stp (fun x=>τ<= x) w t w4 t4) (fun _ w4=>Az w4 (LB (lvl*64+k)) wr.heap.size)
     case atStart=>exact⟨l,t3,G i,hMR,.inl ⟨rfl,rfl⟩,hE3,s3⟩
     case round=>
      obtain⟨todo,t4,row,hM4,hrow,hE4,s4⟩:=hrel;go_wp2_with (at_next;go_must (refine F8 rfl _ rfl hM4 rfl ?_ ?_))
      ·intro h0
       have hrw:row=G i++l.map (·.1):=by
        rcases hrow with⟨h5,h6⟩| ⟨h5,h6⟩
        ·rw[h6,<- h5,h0];simp
        ·exact h6
       rw[<- hg1]at hrw;have HR:=Lib.hid hrw;clear hrow hrw hg1;go_wp2_with fail
       go_roundw
       case rel=>exact⟨i+1,t4,by go_num,hin,by rw[<- HR.out];exact hE4,s4⟩
       case measure=>simp[intOf];omega
      ·intro q1 q2
       refine⟨?_,?_⟩;all_goals
        intro todo' w5 hq hp hM5 hs5 hen;have hlp:todo=l/\ row=G i:=hrow.resolve_right fun h5=>by rw[h5.1]at hp;exact absurd hp.length_eq (by simp)
        have hll:l.map (·.1)= [(q1,q2)]/\ todo'= []:=by
         have h5:=hp.length_eq;rw[hlp.1]at h5 hp;simp only[List.length_cons]at h5;have h6:todo'= []:=List.eq_nil_of_length_eq_zero (by omega)
         rw[h6]at hp;exact⟨by rw[List.perm_singleton.1 hp];rfl,h6⟩
        have hrl:row.length<= 1000:=by rw[hlp.2];exact hGl i
        have hE5:=hE4.keep (hs5 (fun x=>x=τ+1) rfl) (by omega)
        obtain⟨A5,c5,rfl,-,-,-,-⟩:=hE5.form;clear hrow;have sB:Stp (fun x=>τ<= x) w t (w5.alloc (.cells #[.int .i64 q1,.int .i64 q2] 72)) (upT t4 w5 (τ+2)):=(s4.trans (hs5 (fun x=>τ<= x) (Nat.le_succ _)) fun _ h=>h).trans (Stp.alloc w5 t4 _ _ _) fun _ h=>h
        go_upto_region 16 with(fail)
        have hB5:=BT.new' w5 t4 (τ+2) w5.heap.size rfl 72 #[.int .i64 q1,.int .i64 q2];have hE6:=hE5.keep (Stp.alloc w5 t4 (fun _=>False) (.cells #[.int .i64 q1,.int .i64 q2] 72) (τ+2)) id
        have hM6:=hM5.keep (Stp.alloc w5 t4 (fun _=>False) (.cells #[.int .i64 q1,.int .i64 q2] 72) (τ+2)) id id
        obtain⟨U,hU⟩: ∃U,U=w5.alloc (.cells #[.int .i64 q1,.int .i64 q2] 72):=⟨_,rfl⟩;rw[<- hU]at sB hB5 hE6 hM6⊢;clear hU;generalize upT t4 w5 (τ+2)=t6 at*;obtain⟨k0,k1,-,-⟩:=hB5.b.c2;go_wp2_with (at_builtin;go_must (refine qy rfl (.tmp 60) (.tmp 62) 170 rfl 72 _ 2 16 Tryz.underlying170 JO rfl t6 τ (.slice A5 row.length c5) row.length (oZ row) (by go_simp) hE6 [nV q1,nV q2] U.heap.size rfl (by go_simp) rfl (by intro u hu;simp at hu;rcases hu with rfl|rfl<;>rfl) (by omega) ?_;intro v' w7 t7 hr7 hs7;go_frame))
        have hM7:=hM6.keep (hs7 (fun x=>x=τ) rfl) (by omega) (by omega)
        go_roundw
        case rel=>exact⟨todo',t7,row++ [(q1,q2)],hM7,.inr ⟨hll.2,by rw[hlp.2,hll.1]⟩,by rw[List.length_append,WW];exact hr7,sB.trans (hs7 (fun x=>τ<= x) (Nat.le_refl _)) fun _ h=>h⟩
        case measure=>rw[hM7.come,hM4.come,hp.length_eq];simp
def EnS (V:World) (gb:Nat) (l:Bs) (w':World):Prop:=(∃v,BA w' gb V.heap.size v l)/\ Below V.heap.size V w'
theorem EnS.ah {V w w':World} {gb:Nat} {l:Bs} (h:EnS V gb l w) (hb:Below w.heap.size w w'):EnS V gb l w':=by
 obtain⟨⟨v,h1⟩,h2⟩:=h;exact⟨⟨v,h1.ah hb⟩,stepW h2 hb⟩
theorem EnS.line {V w:World} {gb:Nat} {l:Bs} (h:EnS V gb l w) (xs:List ByteArray) (n c:Nat) (A:Option Addr) (hA:Rd w w.heap.size 1 A n (xs.map Value.string)) (hn:n<= 1000000) (hc:n<= c) (hl:l.length<= 100000000) (hm:(xs.map (·.data.toList)).flatten.length<= 100000000):
 Calls Tryz.prog 192 #[.slice A n c,.pointer (some ⟨gb,0,none⟩)] w fun e w'=>e= .returned (.tuple #[])/\ EnS V gb (l++(xs.map (·.data.toList)).flatten++crlf) w':=by
 obtain⟨⟨v,h1⟩,h2⟩:=h;refine(Wp gb V.heap.size n c w.heap.size A v l xs w h1 hA (Nat.le_refl _) hn hc h2.size hl hm).mono ?_;rintro e w' ⟨rfl,h3,h4⟩;exact⟨rfl,h3,h2.trans h4⟩
theorem JU (w:World) (o:Obj):w.heap.size+1<=(w.alloc o).heap.size:=by rw[World.alloc,Array.size_push];exact Nat.le_refl _
theorem EnS.lit {V w:World} {gb:Nat} {l:Bs} (h:EnS V gb l w) (xs:List ByteArray) (n:Nat) (m:Bs) (hn:xs.length=n) (hn2:n<= 1000) (hm:l++(xs.map (·.data.toList)).flatten++crlf=m) (hl:m.length<= 100000000):
 Calls Tryz.prog 192 #[.slice (some ⟨w.heap.size,0,none⟩) n n,.pointer (some ⟨gb,0,none⟩)] (w.alloc (.cells (xs.map Value.string).toArray 9)) fun e w'=>e= .returned (.tuple #[])/\ EnS V gb m w':=by
 subst hm;simp only[List.length_append]at hl;refine(h.ah (aj (Below.refl _ _) _)).line xs n n _ ((Rd.new w _ rfl (xs.map Value.string) 9 n 1 (by simp[hn])).more (JU w _)) (by omega) (Nat.le_refl _) (by omega) (by omega)
theorem WX {l:List Fd} {k:Nat} {f:Fd} (h:l[k]? = some f):mG (l.take (k+1))=mG (l.take k)++rfL f:=by
 rw[List.take_add_one,h,Option.toList_some,mG,mG,List.flatMap_append];simp
theorem aaM (l:List Fd) (k:Nat):(mG (l.take k)).length<=(mG l).length:=by
 have:mG l=mG (l.take k)++mG (l.drop k):=by rw[mG,mG,mG,<- List.flatMap_append,List.take_append_drop]
 rw[this,List.length_append];omega
theorem all_le (r:Rs) (head:Bool) (minor:Int) (close:Bool):(vT r head minor close).length=(iT r.st).length+(mG r.f).length+(dM r minor).length+(gX minor close).length+2+(pG r head minor).length:=by
 rw[vT,Ut];simp only[List.length_append];rfl
theorem EnS.litG {V w:World} {gb:Nat} {l:Bs} (h:EnS V gb l w) (g:Nat) (hg:w.heap.size=g) (xs:List ByteArray) (n:Nat) (m:Bs) (hn:xs.length=n) (hn2:n<= 1000) (hm:l++(xs.map (·.data.toList)).flatten++crlf=m) (hl:m.length<= 100000000):
 Calls Tryz.prog 192 #[.slice (some ⟨g,0,none⟩) n n,.pointer (some ⟨gb,0,none⟩)] (w.alloc (.cells (xs.map Value.string).toArray 9)) fun e w'=>e= .returned (.tuple #[])/\ EnS V gb m w':=by
 subst hg;exact h.lit xs n m hn hn2 hm hl
theorem Own.lower {w:World} {base base' e size n:Nat} {v:Value} {xs:List Value} (h:Own w base e size v n xs) (hb:base'<= base):Own w base' e size v n xs:=by
 obtain⟨h1,h2⟩:=h;refine⟨h1,?_⟩;rcases h2 with h2| ⟨a1,a2,a3,a4,a5,a6,a7⟩
 ·exact .inl h2
 ·exact .inr ⟨a1,a2,a3,a4,a5,Nat.le_trans hb a6,a7⟩
def wO (w:World) (r:Bs×Int) (e:Ending) (w':World):Prop:=
 ∃A c,e= .returned (.tuple #[.slice A r.1.length c,.int .i64 r.2])/\ r.1.length<= c/\ Own w' w.heap.size 5 1 (.slice A r.1.length c) r.1.length (r.1.map bv)/\ Below w.heap.size w w'
theorem Cm (x:RsP) (head:Bool) (minor:Int) (close:Bool) (w:World) (hR:RsR w x) (hZ:RsZ x) (htz:TZ w) (ht:Tab10 w) (hL:dh x.r=true-> Light x.r):
 Calls Tryz.prog 147 #[rsW x,.bool head,.int .i64 minor,.bool close] w (wO w (encR x.r head minor close)):=by
 have hI:=fun w' (h:RsR w' x)=>QD x w' h hZ
 obtain⟨r,Af,cf,Ab,cb,Ap,cp⟩:=x;have hmf: ∀(fn:Fn) (first cap:Array Value) (w:World),(Instr.makeFunc fn first cap).run Tryz.prog w= .ok (.func fn first cap) w:=fun _ _ _ _=>rfl
 have hzf:r.f.length<= 1000000:=hZ.f;have hzb:r.b.length<= 1000000:=hZ.b;have hzp:r.p.length<= 1000000:=hZ.p;have hzs:oJ r.f:=hZ.fs;have hL':dh r=true-> Light r:=hL;clear hL;show Calls Tryz.prog 147 #[.agg #[.int .i64 r.st,.slice Af r.f.length cf,.slice Ab r.b.length cb,.slice Ap r.p.length cp],.bool head,.int .i64 minor,.bool close] w (wO w (encR r head minor close));go_enter Tryz.func147,Tryz.ntmps147
 go_upto_region 1 with(fail)
 obtain⟨U,hU⟩: ∃U,U=w.alloc (.cells #[.int .i64 r.st,.slice Af r.f.length cf,.slice Ab r.b.length cb,.slice Ap r.p.length cp] 54):=⟨_,rfl⟩;rw[<- hU];have LU:Below w.heap.size w U:=by rw[hU];exact aj (Below.refl _ _) _
 have BU:Blk U w.heap.size 54 #[.int .i64 r.st,.slice Af r.f.length cf,.slice Ab r.b.length cb,.slice Ap r.p.length cp]:=by rw[hU];exact Blk.new' _ _ rfl _ _
 clear hU;have RU:RB U w.heap.size ⟨r,Af,cf,Ab,cb,Ap,cp⟩:=⟨BU,hR.ah LU⟩;obtain⟨x0,x1,x2,x3,z0,z1,z2,z3⟩:=BU.c4;go_wp2_with fail
 refine(hI U RU.row).mono ?_;rintro e V ⟨rfl,L1⟩;have LV:=stepW LU L1;have RV:=RU.ah L1;have htV:=tab_below ht LV (Nat.le_refl _);clear x0 x1 x2 x3 z0 z1 z2 z3 BU RU hI LU L1 hR;cases hone:dh r
 ·have HE:=Lib.hid (show encR r head minor close=([],1) by rw[encR,hone];rfl)
  clear hone;go_wp2_with fail
  go_ret2
  exact⟨none,0,by rw[HE.out];rfl,by rw[HE.out];exact Nat.le_refl _,by rw[HE.out];exact Own.nil _ _ _ _,LV⟩
 ·have hLt:=hL' hone
  have HLN:=Lib.hid (rY r head minor close hLt hone);have HCF:=Lib.hid (WH r hLt hone);have HPF:=Lib.hid (show(jZ r.b.length 0 r.p).isSome=true by obtain⟨-,-,-,-,last,h9,-⟩:=rW r hone;rw[h9];rfl)
  have HE:=Lib.hid (show encR r head minor close=(vT r head minor close,0) by rw[encR,if_pos hone,if_neg (by have:=HLN.out;omega)])
  obtain⟨hst,-⟩:=rW r hone;have htzV:=htz.below LV (Nat.le_refl _);clear hone hL' hLt htz;obtain⟨x0,x1,x2,x3,z0,z1,z2,z3⟩:=RV.blk.c4;go_upto_region 5 with(fail)
  obtain⟨W,hW⟩: ∃W,W=V.alloc (.cells #[.slice none 0 0] 33):=⟨_,rfl⟩;rw[<- hW];have E0:EnS V V.heap.size [] W:=by rw[hW];exact⟨⟨_,Blk.new' _ _ rfl _ _,OB.nil _ _,Nat.le_refl _,by simp[Value.ownBlock]⟩,aj (Below.refl _ _) _⟩
  clear hW;have HS: ∀l w',EnS V V.heap.size l w'-> RB w' w.heap.size ⟨r,Af,cf,Ab,cb,Ap,cp⟩:=fun l w' h=>RV.ah h.2
  have hD:=fun w' (L:Below V.heap.size V w')=>FC r.st w' (by omega) (by omega) (tab_below htV L (Nat.le_refl _))
  have hPh:=fun w'=>oC r.st w'
  have hL0:(iT r.st).length<= 1000:=Nat.le_trans (EO r.st (by omega)) (by decide)
  have hJ: ∀(w':World) (h:EnS V V.heap.size [] w'),Calls Tryz.prog 192 #[.slice (some ⟨w'.heap.size,0,none⟩) 4 4,.pointer (some ⟨V.heap.size,0,none⟩)] (w'.alloc (.cells #[.string ⟨#[72,84,84,80,47,49,46,49,32]⟩,sv (eG 10 r.st.toNat),.string ⟨#[32]⟩,sv (bH r.st)] 9)) fun e w2=>e= .returned (.tuple #[])/\ EnS V V.heap.size (iT r.st) w2:=fun w' h=>
   h.lit [⟨#[72,84,84,80,47,49,46,49,32]⟩,⟨(eG 10 r.st.toNat).toArray⟩,⟨#[32]⟩,⟨(bH r.st).toArray⟩] 4 (iT r.st) rfl (by decide) (by simp[iT,PV]) (by omega)
  have HC: ∀l w',EnS V V.heap.size l w'-> w'.cell? ⟨w.heap.size,0,none⟩=some (.int .i64 r.st)/\ w'.frozen? ⟨w.heap.size,0,none⟩=false:=by
   intro l w' h;obtain⟨h1,-,-,-,h2,-,-,-⟩:=(HS _ _ h).blk.c4;exact⟨h1,h2⟩
  have X0:=HC _ _ E0;obtain⟨y0,y1⟩:=X0;go_region_held3 (fun w'=>w'.cell? ⟨w.heap.size,0,none⟩=some (.int .i64 r.st)/\ w'.frozen? ⟨w.heap.size,0,none⟩=false)
   (first|go_keep|with_reducible exact X4|with_reducible exact X6|with_reducible exact X5)
   (first
     | (go_at_call 193
        refine(hD _ (E0.2.drew)).mono ?_;rintro e w4 ⟨rfl,L4⟩;have E4:=(E0.ah (Below.refl _ _).drew).ah L4;have X4:=HC _ _ E4
        have X5:=HC _ _ (E4.ah (aj (Below.refl _ _) (.cells #[.string ⟨#[72,84,84,80,47,49,46,49,32]⟩,sv (eG 10 r.st.toNat),.string ⟨#[32]⟩,sv (bH r.st)] 9))))
     | (go_at_call 57
        refine(hPh _).mono ?_
        rintro e w5 ⟨rfl,rfl⟩)
     | (go_at_call 192
        refine(hJ _ E4).mono ?_;rintro e w6 ⟨rfl,E6⟩
        have X6:=HC _ _ E6))
  have hal:=all_le r head minor close;have E6':EnS V V.heap.size (iT r.st++mG (r.f.take 0)) w6:=by rw[show iT r.st++mG (r.f.take 0)=iT r.st by simp[mG]];exact E6
  obtain⟨s0,s1,s2,s3,s4,s5,s6,s7⟩:=(HS _ _ E6).blk.c4;have HAL:=Lib.hid hal;clear hal hD hPh hJ E4 X4 X5 X6 x0 x1 x2 x3 z0 z1 z2 z3 y0 y1 L4 HC E0;go_wp2_with fail
  go_loopw [31] (fun i wr=> ∃k:Nat,k<= r.f.length/\ i= .int .i64 k/\ EnS V V.heap.size (iT r.st++mG (r.f.take k)) wr) (fun i _=>r.f.length- (intOf i).toNat)
  case atStart=>exact⟨0,Nat.zero_le _,rfl,E6'⟩
  case round=>
   obtain⟨k,hk,rfl,E⟩:=hrel;have Rk:=HS _ _ E;clear s0 s1 s2 s3 s4 s5 s6 s7 E6 E6';by_cases hlt:k<r.f.length
   ·obtain⟨f,hf,hd⟩:=zk hlt
    obtain⟨b,o,rfl,hbB,y0,y1⟩:=Rd.fd (show Rd wr wr.heap.size 2 Af r.f.length (aQ r.f)from Rk.row.rf) rfl k f hf
    have hst9:=WX hf;have hle:=aaM r.f (k+1);have hJ:=(E.ah (aj (Below.refl _ _) (.cells #[sv f.1,sv f.2] 86))).litG (wr.heap.size+1) (Array.size_push _) [⟨f.1.toArray⟩,⟨#[58,32]⟩,⟨f.2.toArray⟩] 3 (iT r.st++mG (r.f.take (k+1))) rfl (by decide) (by rw[hst9,rfL];simp[csB]) (by have:=HAL.out;have:=HLN.out;rw[List.length_append];omega)
    clear hf hd hst9 hle;go_wp2_with fail
    refine hJ.mono ?_;rintro e w7 ⟨rfl,E7⟩;go_wp2_with fail
    go_roundw
    case rel=>exact⟨k+1,by omega,by go_num,E7⟩
    case measure=>simp[intOf];omega
   ·rw[List.take_of_length_le (by omega)]at E
    obtain rfl:k=r.f.length:=by omega
    obtain⟨q0,q1,q2,q3,p0,p1,p2,p3⟩:=Rk.blk.c4;obtain⟨H,hH⟩: ∃H,H=iT r.st++mG r.f:=⟨_,rfl⟩;rw[<- hH]at E;have HH:=Lib.hid hH;clear hH;clear q0 q1 q2 q3 p0 p1 p2 p3 Rk hst hL0 hzs hzf;have hC:=Lib.hid (show fF r minor=(decide (0<r.p.length)&&decide (0<minor))from rfl)
    have hnb:=fun w=>jy r.st w
    obtain⟨q0,q1,q2,q3,p0,p1,p2,p3⟩:=(HS _ _ E).blk.c4;go_upto_region 11 with(fail)
    go_cut [14] (fun v14 wx=>v14= .bool (fF r minor)/\ wr=wx)
    case first=>
     by_cases hp:0<r.p.length
     ·have hp':(0:Int)< (r.p.length:Int):=by omega
      by_cases hm:0<minor
      ·have hC2:=Lib.hid (show fF r minor=true by rw[hC.out,decide_eq_true hp,decide_eq_true hm,Bool.true_and])
       clear hC hp hnb;go_wp2_with fail
       go_meet
       case rel=>exact⟨by rw[hC2.out],rfl⟩
      ·have hC2:=Lib.hid (show fF r minor=false by rw[hC.out,decide_eq_false hm,Bool.and_false])
       clear hC hp hnb;go_wp2_with fail
       go_meet
       case rel=>exact⟨by rw[hC2.out],rfl⟩
     ·have hp': ¬(0:Int)< (r.p.length:Int):=by omega
      have hC2:=Lib.hid (show fF r minor=false by rw[hC.out,decide_eq_false hp,Bool.false_and])
      clear hC hp hnb;go_wp2_with fail
      go_meet
      case rel=>exact⟨by rw[hC2.out],rfl⟩
    case rest=>
     obtain⟨rfl,rfl⟩:=hcut;clear hC;have HBD:Hid ((H++dM r minor).length<= 65536):=Lib.hid (by have:=HAL.out;have:=HLN.out;rw[HH.out,List.length_append,List.length_append];omega)
     have HBL:Hid ((H++dM r minor++gX minor close).length<= 65536):=Lib.hid (by have:=HAL.out;have:=HLN.out;rw[HH.out,List.length_append,List.length_append,List.length_append];omega)
     have HBA:Hid (vT r head minor close=H++dM r minor++gX minor close++crlf++pG r head minor):=Lib.hid (by rw[HH.out];rfl)
     have HBC:Hid ((H++dM r minor++gX minor close++crlf).length+(pG r head minor).length<= 65536):=Lib.hid (by have:=HLN.out;rw[HBA.out,List.length_append]at this;exact this)
     clear HAL HLN HH
     go_upto_block 2 with(fail)
     go_cut [14] (fun v14 wx=>v14= .bool (fF r minor)/\ EnS V V.heap.size (H++dM r minor) wx)
     case first=>
      cases hn:bW r.st
      ·cases hch:fF r minor
       ·have hcr:clS++eG 10 r.b.length++crlf=dM r minor:=by rw[dM,hn,hch];rfl
        have hD2:=fun w' (L:Below V.heap.size V w')=>FC (r.b.length:Int) w' (by omega) (by omega) (tab_below htV L (Nat.le_refl _))
        simp only[Int.toNat_natCast]at hD2;have hJ2:=fun(w':World) (h:EnS V V.heap.size H w')=>h.lit [⟨#[67,111,110,116,101,110,116,45,76,101,110,103,116,104]⟩,⟨#[58,32]⟩,⟨(eG 10 r.b.length).toArray⟩] 3 (H++dM r minor) rfl (by decide) (by rw[<- hcr];simp[clS,clN,csB]) (by have:=HBD.out;omega)
        have hJ3: ∀(w':World),EnS V V.heap.size H w'-> Calls Tryz.prog 192 #[.slice (some ⟨w'.heap.size,0,none⟩) 3 3,.pointer (some ⟨V.heap.size,0,none⟩)] (w'.alloc (.cells #[.string ⟨#[67,111,110,116,101,110,116,45,76,101,110,103,116,104]⟩,.string ⟨#[58,32]⟩,sv (eG 10 r.b.length)] 9)) fun e w2=>e= .returned (.tuple #[])/\ EnS V V.heap.size (H++dM r minor) w2:=hJ2
        rw[hn]at hnb;clear hn hcr hJ2
        go_wp2_with (first
         | (go_at_call 159
            refine(hnb _).mono ?_
            rintro e w1 ⟨rfl,rfl⟩)
         | (go_at_call 193
            refine(hD2 _ E.2).mono ?_;rintro e w2 ⟨rfl,L2⟩
            have E2:=E.ah L2)
         | (go_at_call 192
            refine(hJ3 _ E2).mono ?_
            rintro e w3 ⟨rfl,E3⟩))
        go_meet
        case rel=>exact⟨by rw[hch],E3⟩
       ·have hcr:teS++crlf=dM r minor:=by rw[dM,hn,hch];rfl
        have hJ2:=fun(w':World) (h:EnS V V.heap.size H w')=>h.lit [⟨#[84,114,97,110,115,102,101,114,45,69,110,99,111,100,105,110,103]⟩,⟨#[58,32,99,104,117,110,107,101,100]⟩] 2 (H++dM r minor) rfl (by decide) (by rw[<- hcr];simp[teS,teN,chB,csB,bP]) (by have:=HBD.out;omega)
        have hJ3: ∀(w':World),EnS V V.heap.size H w'-> Calls Tryz.prog 192 #[.slice (some ⟨w'.heap.size,0,none⟩) 2 2,.pointer (some ⟨V.heap.size,0,none⟩)] (w'.alloc (.cells #[.string ⟨#[84,114,97,110,115,102,101,114,45,69,110,99,111,100,105,110,103]⟩,.string ⟨#[58,32,99,104,117,110,107,101,100]⟩] 9)) fun e w2=>e= .returned (.tuple #[])/\ EnS V V.heap.size (H++dM r minor) w2:=hJ2
        rw[hn]at hnb;clear hn hcr hJ2
        go_wp2_with (first
         | (go_at_call 159
            refine(hnb _).mono ?_
            rintro e w1 ⟨rfl,rfl⟩)
         | (go_at_call 192
            refine(hJ3 _ E).mono ?_
            rintro e w3 ⟨rfl,E3⟩))
        go_meet
        case rel=>exact⟨by rw[hch],E3⟩
      ·have hcr:dM r minor= []:=by rw[dM,hn];rfl
       have E2:EnS V V.heap.size (H++dM r minor) wr:=by rw[hcr,List.append_nil];exact E
       clear hcr;rw[hn]at hnb;clear hn
       go_wp2_with (first
        | (go_at_call 159
           refine(hnb _).mono ?_
           rintro e w1 ⟨rfl,rfl⟩))
       go_meet
       case rel=>exact⟨rfl,E2⟩
     case rest=>
      obtain⟨rfl,E2⟩:=hcut;clear E q0 q1 q2 q3 p0 p1 p2 p3 HBD
      go_upto_block 3 with(fail)
      go_cut [14] (fun v14 wx=>v14= .bool (fF r minor)/\ EnS V V.heap.size (H++dM r minor++gX minor close) wx)
      case first=>
       cases close
       ·by_cases hm:minor<1
        ·have hlr:ckS++crlf=gX minor false:=by rw[gX,if_neg (by decide),if_pos hm]
         have hJ2:=fun(w':World) (h:EnS V V.heap.size (H++dM r minor) w')=>h.lit [⟨#[67,111,110,110,101,99,116,105,111,110]⟩,⟨#[58,32,107,101,101,112,45,97,108,105,118,101]⟩] 2 (H++dM r minor++gX minor false) rfl (by decide) (by rw[<- hlr];simp[ckS,coN,csB,uf]) (by have:=HBL.out;omega)
         have hJ3: ∀(w':World),EnS V V.heap.size (H++dM r minor) w'-> Calls Tryz.prog 192 #[.slice (some ⟨w'.heap.size,0,none⟩) 2 2,.pointer (some ⟨V.heap.size,0,none⟩)] (w'.alloc (.cells #[.string ⟨#[67,111,110,110,101,99,116,105,111,110]⟩,.string ⟨#[58,32,107,101,101,112,45,97,108,105,118,101]⟩] 9)) fun e w2=>e= .returned (.tuple #[])/\ EnS V V.heap.size (H++dM r minor++gX minor false) w2:=hJ2
         clear hlr hJ2
         go_wp2_with (first
          | (go_at_call 192
             refine(hJ3 _ E2).mono ?_
             rintro e w3 ⟨rfl,E3⟩))
         go_meet
         case rel=>exact⟨rfl,E3⟩
        ·have E3:EnS V V.heap.size (H++dM r minor++gX minor false) wc:=by rw[gX,if_neg (by decide),if_neg hm,List.append_nil];exact E2
         go_wp2_with fail
         go_meet
         case rel=>exact⟨rfl,E3⟩
       ·have hlr:ccS++crlf=gX minor true:=by rw[gX,if_pos rfl]
        have hJ2:=fun(w':World) (h:EnS V V.heap.size (H++dM r minor) w')=>h.lit [⟨#[67,111,110,110,101,99,116,105,111,110]⟩,⟨#[58,32,99,108,111,115,101]⟩] 2 (H++dM r minor++gX minor true) rfl (by decide) (by rw[<- hlr];simp[ccS,coN,csB,mD]) (by have:=HBL.out;omega)
        have hJ3: ∀(w':World),EnS V V.heap.size (H++dM r minor) w'-> Calls Tryz.prog 192 #[.slice (some ⟨w'.heap.size,0,none⟩) 2 2,.pointer (some ⟨V.heap.size,0,none⟩)] (w'.alloc (.cells #[.string ⟨#[67,111,110,110,101,99,116,105,111,110]⟩,.string ⟨#[58,32,99,108,111,115,101]⟩] 9)) fun e w2=>e= .returned (.tuple #[])/\ EnS V V.heap.size (H++dM r minor++gX minor true) w2:=hJ2
        clear hlr hJ2
        go_wp2_with (first
         | (go_at_call 192
            refine(hJ3 _ E2).mono ?_
            rintro e w3 ⟨rfl,E3⟩))
        go_meet
        case rel=>exact⟨rfl,E3⟩
      case rest=>
       obtain⟨rfl,E3⟩:=hcut;clear E2;have hJ4: ∀(w':World),EnS V V.heap.size (H++dM r minor++gX minor close) w'-> Calls Tryz.prog 192 #[.slice none 0 0,.pointer (some ⟨V.heap.size,0,none⟩)] w' fun e w2=>e= .returned (.tuple #[])/\ EnS V V.heap.size (H++dM r minor++gX minor close++crlf) w2:=by
        intro w' h;have h9:=h.line [] 0 0 none (Rd.nil _ _ _ _) (by decide) (Nat.le_refl _) (by have:=HBL.out;omega) (by decide)
        simp only[List.map_nil,List.flatten_nil,List.append_nil]at h9;exact h9
       clear HBL
       go_upto_block 4 with(first
        | (go_at_call 192
           refine(hJ4 _ E3).mono ?_
           rintro e w3 ⟨rfl,E4⟩))
       clear hJ4 E3;have HBA2:=HBA;go_cut [14] (fun v14 wx=>v14= .bool (fF r minor)/\ EnS V V.heap.size (vT r head minor close) wx)
       case first=>
        have RW:=(HS _ _ E4).row;obtain⟨q0,q1,q2,q3,p0,p1,p2,p3⟩:=(HS _ _ E4).blk.c4;obtain⟨P,hP⟩: ∃P,P=H++dM r minor++gX minor close++crlf:=⟨_,rfl⟩;rw[<- hP]at E4 HBA HBC;cases head
        ·cases hn:bW r.st
         ·rw[hn]at hnb
          obtain⟨⟨v,hBA⟩,hBl⟩:=E4;obtain⟨A9,c9,hv9,hc9,-,-⟩:=hBA.own.form;subst hv9;obtain⟨t0,t1⟩:=hBA.blk.c1;have hgs:=hBl.size;have hPl:=HBC.out;cases hch:fF r minor
          ·have hbd:pG r false minor=r.b:=by rw[pG,hn,hch];rfl
           rw[hbd]at HBA hPl;have hRb:Rd w3 w3.heap.size 1 Ab r.b.length (r.b.map bv):=RW.rb;obtain⟨Q,hQ⟩: ∃Q,P++r.b=Q:=⟨_,rfl⟩;have HQ:=Lib.hid hQ;rw[hQ]at HBA;clear hn hbd HBC hP RW hQ
           go_wp2_with (first
            | (go_at_call 159
               refine(hnb _).mono ?_
               rintro e w1 ⟨rfl,rfl⟩)
            | (at_builtin
               refine Ir rfl (.tmp 80) (.tmp 82) rfl V.heap.size (.slice A9 P.length c9) P rfl hBA.own (Below.refl _ _) Ab r.b.length cb _ rfl r.b hRb (by omega) hgs ?_
               intro v4 w4' ho4 hx4;rw[HQ.out]at ho4;obtain⟨A4,c4,hv4,-,-,-⟩:=ho4.form;subst hv4
               obtain⟨r0,r1⟩:=(hBA.blk.fr hx4.fr hBA.ne).c1))
           go_meet
           case rel=>exact⟨by rw[hch],⟨_,by rw[HBA.out];exact hBA.app hx4 ho4⟩,hBA.below hBl hgs hx4 _⟩
          ·have hbd:pG r false minor=AO (iF r.b 0 r.p):=by rw[pG,hn,hch];rfl
           rw[hbd]at HBA hPl;have hPa:=fun(W:World) (L:Below w3.heap.size w3 W)=>QE ⟨r,Af,cf,Ab,cb,Ap,cp⟩ W (RW.ah L) hZ HPF.out
           have hPa': ∀(W:World) (L:Below w3.heap.size w3 W),Calls Tryz.prog 195 #[.agg #[.int .i64 r.st,.slice Af r.f.length cf,.slice Ab r.b.length cb,.slice Ap r.p.length cp]] W (He W (iF r.b 0 r.p)):=hPa;have htz3:TZ w3:=htzV.below hBl (Nat.le_refl _);have hcl:(iF r.b 0 r.p).length<= 1000000:=by rw[(BX r.b r.p 0).1];exact hzp
           generalize iF r.b 0 r.p=ps at*;obtain⟨En,hEn⟩: ∃En,En=AO ps:=⟨_,rfl⟩;have hCh:=fun A n c B w h hB hT hn ht=>Ll A n c B ps w h hB hT hn ht
           rw[<- hEn]at HBA hPl hCh;obtain⟨Q,hQ⟩: ∃Q,P++En=Q:=⟨_,rfl⟩;have HQ:=Lib.hid hQ;rw[hQ]at HBA;clear hn hbd HBC hP hPa RW hEn hQ
           go_wp2_with (first
            | (go_at_call 159
               refine(hnb _).mono ?_
               rintro e w1 ⟨rfl,rfl⟩))
           go_region_law (first
            | (go_simp
               go_at_call 195
               refine(hPa' _ (Below.refl _ _).drew).mono ?_;rintro e w5 ⟨A5,c5,rfl,hS5,L5⟩;have N5:=stepW (Below.refl w3.heap.size w3).drew L5;have B5:=hBA.ah N5
               obtain⟨y0,y1⟩:=B5.blk.c1)
            | (go_simp
               go_at_call 194
               refine(hCh A5 _ c5 _ _ hS5 (Nat.le_refl _) HCF.out hcl (htz3.below N5 (Nat.le_refl _))).mono ?_;rintro e w6' ⟨v6,rfl,ho6,L6⟩;have N6:=stepW N5 L6;have B6:=hBA.ah N6;have hs6:=N6.size;obtain⟨A6,c6,hv6,-,-,hr6⟩:=ho6.form;subst hv6
               obtain⟨y2,y3⟩:=B6.blk.c1)
            | (refine nG rfl (.tmp 93) (.tmp 96) rfl V.heap.size (.slice A9 P.length c9) P rfl B6.own (Below.refl _ _) A6 En.length c6 _ rfl En hr6 (by omega) (by omega) ?_
               intro v4 w4' ho4 hx4;rw[HQ.out]at ho4;obtain⟨A4,c4,hv4,-,-,-⟩:=ho4.form;subst hv4
               obtain⟨r0,r1⟩:=(B6.blk.fr hx4.fr B6.ne).c1))
           all_goals
            go_wp2_with fail
            go_meet
            case rel=>exact⟨by rw[hch],⟨_,by rw[HBA.out];exact B6.app hx4 ho4⟩,B6.below (stepW hBl N6) (by omega) hx4 _⟩
         ·have E5:EnS V V.heap.size (vT r false minor close) w3:=by rw[HBA.out,pG,hn];simpa using E4
          rw[hn]at hnb;clear hn hP HBA HBC E4
          go_wp2_with (first
           | (go_at_call 159
              refine(hnb _).mono ?_
              rintro e w1 ⟨rfl,rfl⟩))
          go_meet
          case rel=>exact⟨rfl,E5⟩
        ·have E5:EnS V V.heap.size (vT r true minor close) w3:=by rw[HBA.out,pG];simpa using E4
         clear hP HBA HBC E4;go_wp2_with fail
         go_meet
         case rel=>exact⟨rfl,E5⟩
       case rest=>
        obtain⟨-,E5⟩:=hcut;clear HBA hnb hZ;obtain⟨⟨v,hBA⟩,hBl⟩:=E5;have hln:(vT r head minor close).length<= 65536:=by
         rw[HBA2.out,List.length_append];exact HBC.out
        obtain⟨P,hP⟩: ∃P,P=vT r head minor close:=⟨_,rfl⟩;rw[<- hP]at hBA hln HE;have ho:=hBA.own;obtain⟨A9,c9,hv9,hc9,-,-⟩:=hBA.own.form;subst hv9;obtain⟨t0,t1⟩:=hBA.blk.c1;have hl2: ¬(65536:Int)< (P.length:Int):=by omega
        have hgs:=LV.size;clear hBA HBC HBA2 hP hln;go_wp2
        go_ret2
        exact⟨A9,c9,by rw[HE.out];rfl,by rw[HE.out];exact hc9,by rw[HE.out];exact Own.lower ho hgs,LV.trans (hBl.mono hgs)⟩
def cfB (i j:Nat):Cf:= { cf1 with base:=i,cap:=j }
def wP (T:Nat):WhS:= { wh0 0 with now:=T }
def aaN (rd:Bool):fK:=⟨⟨4096,[⟨1,true,-1⟩],1⟩,[((0,1),⟨-1,rd,false⟩)]⟩
def bk (i j f dl till T fl:Nat) (rd:Bool):SrS:=
 { yS (cfB i j) tK with gate:=⟨[],0,f,dl,till,false⟩,wh:=wP T,poll:=aaN rd,net:=⟨8,[nc0 0],[0],false,fl,1,0⟩,reading:=rd,failed:=f }
theorem advB0 (T T':Nat) (h:T<4096) (h1:T'<4096) (h2:T<= T'):JI (wP T) T'=true/\ vY (wP T) T'=(wP T',[]):=by
 have e:min (max T' T) ticks=T':=by simp only[ticks];omega
 have hm: ∀s:WhS,(s.lists=fun _ _=> [])-> ∀was,iy s was= []:=by
  intro s hs was;have hl: ∀l,gZ s was l= []:=by
   intro l;unfold gZ;rw[hs];simp
  rw[iy,hl,hl,hl,hl,hs];simp
 constructor
 ·have hz:iy { wP T with now:=min (max T' (wP T).now) ticks } (wP T).now= []:=hm _ rfl _
  simp only[JI,hz];simp only[Bool.and_eq_true,decide_eq_true_eq,List.all_eq_true];refine⟨h,h1,⟨fun l _ k _=> ?_,trivial⟩⟩
  show([]:List (Hn×Bool)).length<= 1;simp
 ·have hz:iy { wP T with now:=min (max T' (wP T).now) ticks } (wP T).now= []:=hm _ rfl _
  simp only[vY,uJ,hz,List.foldl_nil,List.map_nil];show({ wP T with now:=min (max T' T) ticks },[])=_
  rw[e];rfl
theorem Nc (i j f dl till T fl:Nat) (rd:Bool) (T':Nat) (h1:T'<4096) (h2:T<= T'):uT (bk i j f dl till T fl rd) T'=T':=by
 show min (max T' T) ticks=T';simp only[ticks];omega
theorem Hw (i j f dl till T fl:Nat) (rd:Bool) (T':Nat) (h:T<4096) (h1:T'<4096) (h2:T<= T'):zC (bk i j f dl till T fl rd) T'=some (bk i j f dl till T' fl rd):=by
 obtain⟨a,b⟩:=advB0 T T' h h1 h2;have e:(bk i j f dl till T fl rd).wh=wP T:=rfl;rw[zC,e,a,b];rfl
theorem QW (i j f dl till T fl:Nat) (rd:Bool) (T':Nat) (h:T<4096) (h1:T'<4096) (h2:T<= T') (h3:T'<till):
 kD (bk i j f dl till T fl rd) T'=some (bk i j f dl till T' fl false,0):=by
 rw[kD,if_neg (by simp[bk,yS]),Nc _ _ _ _ _ _ _ _ _ h1 h2,Hw _ _ _ _ _ _ _ _ _ h h1 h2,Option.bind_some]
 have hm:Dl (bk i j f dl till T' fl rd).cf (bk i j f dl till T' fl rd).gate T'=false:=by
  have:decide (till<= T')=false:=decide_eq_false (by omega)
  show(!false&& (decide (till<= T')&&_))=false;rw[this];rfl
 have hT:decide (T'<= 1000000)=true:=decide_eq_true (by omega)
 cases rd
 ·simp only[hm,Bool.false_and]
  simp only[hT];rfl
 ·simp only[hm,Bool.false_and]
  simp only[hT];rfl
theorem OC (i j f dl till T fl:Nat) (rd:Bool) (T':Nat) (h:till<= T'):Dl (bk i j f dl till T fl rd).cf (bk i j f dl till T fl rd).gate T'=true:=by
 show(!false&& (decide (till<= T')&&_))=true;rw[decide_eq_true h];rfl
def dlB (i j f dl:Nat):Nat:=min j (if f=0 then i else min j (2*dl))
theorem WY (i j f dl till T fl:Nat) (rd:Bool) (T':Nat) (h1:T'<4096):lV (cfB i j) (bk i j f dl till T fl rd).gate T'=⟨[],0,f+1,dlB i j f dl,T'+dlB i j f dl,false⟩:=by
 have e:min T' ticks=T':=by simp only[ticks];omega
 show(⟨[],0,f+1,_,min T' ticks+_,false⟩:iW)=_;rw[e];rfl
theorem Nh (i j f dl till fl:Nat) (T':Nat) (h1:T'<4096) (hf:f<= 1000) (hd:dl<= 1000) (hfl:fl<1000):
 pq (bk i j f dl till T' (fl+1) true) T'=some (bk i j (f+1) (dlB i j f dl) (T'+dlB i j f dl) T' fl true,false):=by
 have g1:decide (fl+1<= 1000000)=true:=decide_eq_true (by omega)
 have g2:decide (f<= 1000000)=true:=decide_eq_true (by omega)
 have g3:decide (dl<= 1073741824)=true:=decide_eq_true (by omega)
 have g4:decide (T'<= 1000000)=true:=decide_eq_true (by omega)
 have hG:=WY i j f dl till T' (fl+1) true T' h1;rw[pq];have hgd:(!(bk i j f dl till T' (fl+1) true).net.stopped&& (JH (bk i j f dl till T' (fl+1) true)&& (decide ((bk i j f dl till T' (fl+1) true).net.fails<= 1000000)&& (decide ((bk i j f dl till T' (fl+1) true).net.op<= 1000000)&& (decide ((bk i j f dl till T' (fl+1) true).gate.all<= 1000000)&& (decide ((bk i j f dl till T' (fl+1) true).gate.failures<= 1000000)&& (decide ((bk i j f dl till T' (fl+1) true).gate.delay<= 1073741824)&&decide (T'<= 1000000))))))))=true:=by
  show(true&& ((true&& (true&& (true&& (decide (f<= 1000000)&& (true&& (true&&true))))))&& (decide (fl+1<= 1000000)&& (true&& (true&& (decide (f<= 1000000)&& (decide (dl<= 1073741824)&&decide (T'<= 1000000))))))))=true;rw[g1,g2,g3,g4];rfl
 rw[aV,if_pos hgd];show(if 0<fl+1 then some ({ bk i j f dl till T' (fl+1) true with net:= { (bk i j f dl till T' (fl+1) true).net with fails:=fl+1-1 },failed:=f+1,gate:=lV (cfB i j) (bk i j f dl till T' (fl+1) true).gate T' },false)else _)=_
 rw[if_pos (by omega),hG]
 rfl
theorem H6 (i j f dl till fl:Nat) (T':Nat) (h1:T'<4096) (hf:f<= 1000) (hd:dl<= 1000) (hfl:fl<1000) (h:till<= T'):
 dJ T' 16 (bk i j f dl till T' (fl+1) true)=some (bk i j (f+1) (dlB i j f dl) (T'+dlB i j f dl) T' fl true):=by
 rw[dJ,if_neg (by rw[OC _ _ _ _ _ _ _ _ _ h];simp[bk]),Nh _ _ _ _ _ _ _ h1 hf hd hfl]
 rfl
theorem ES (i j f dl till T fl:Nat) (rd:Bool) (T':Nat) (h:T<4096) (h1:T'<4096) (h2:T<= T') (h3:till<= T') (hf:f<= 1000) (hd:dl<= 1000) (hfl:fl<1000):
 kD (bk i j f dl till T (fl+1) rd) T'=some (bk i j (f+1) (dlB i j f dl) (T'+dlB i j f dl) T' fl true,1):=by
 rw[kD,if_neg (by simp[bk,yS]),Nc _ _ _ _ _ _ _ _ _ h1 h2,Hw _ _ _ _ _ _ _ _ _ h h1 h2,Option.bind_some]
 have hT:decide (T'<= 1000000)=true:=decide_eq_true (by omega)
 have hL:=H6 i j f dl till fl T' h1 hf hd hfl h3;have hm:=OC i j f dl till T' (fl+1) rd T' h3;have hr:kP (bk i j f dl till T' (fl+1) rd)=true:=rfl;simp only[hm,hr,Bool.true_and,Bool.true_or,hT];have e:(if true=(bk i j f dl till T' (fl+1) rd).reading then bk i j f dl till T' (fl+1) rd else { bk i j f dl till T' (fl+1) rd with reading:=true,poll:=iZ (bk i j f dl till T' (fl+1) rd).poll (bk i j f dl till T' (fl+1) rd).handle true false })=bk i j f dl till T' (fl+1) true:=by
  cases rd<;>rfl
 rw[e,if_neg (by simp[bk,yS])]
 show aV _ (Option.map (fun s3=>(s3,1)) ((dJ T' 16 (bk i j f dl till T' (fl+1) true)).bind fun s=>some s))=_
 rw[hL];cases rd<;>rfl
def uU (s:SrS):SrS:= { s with net:= { s.net.up 0 eH with queue:= [],op:=s.net.op+1 },gate:=(pI s.cf s.gate 0).1 }
def OD (s:SrS) (T:Nat):SrS:= { s with pool:=(jS s.pool).1,poll:=(mO s.poll (0:Int) false false).1,all:=bK s.all 0 ⟨cn0 T,0,0,(jS s.pool).2,(mO s.poll (0:Int) false false).2,(0,0),false,0,false⟩,accepted:=s.accepted+1 }
theorem Nj (i j f dl till:Nat) (T':Nat) (h1:T'+50<4096) (hf:f<= 1000):
 ∃s',sS (uU (bk i j f dl till T' 0 true)) 0 0 T'=some s'/\ s'.failed=f/\ s'.accepted=1/\ s'.net.queue= []:=by
 have g1:decide (T'<= 1000000)=true:=decide_eq_true (by omega)
 have g2:decide (T'<4096)=true:=decide_eq_true (by omega)
 have g3:decide (T'+50<4096)=true:=decide_eq_true h1;have g4:decide (f<= 1000000)=true:=decide_eq_true (by omega)
 have e:sS (uU (bk i j f dl till T' 0 true)) 0 0 T'=aV (true&& (true&& (true&& (true&& (true&& (decide (T'<= 1000000)&& ((true&& (true&& (true&& (decide (f<= 1000000)&& (true&& (true&&true))))))&&true)))))))
  (aV true (gV (OD (uU (bk i j f dl till T' 0 true)) T') 0 T')):=rfl
 rw[e,g1,g4];have e2:gV (OD (uU (bk i j f dl till T' 0 true)) T') 0 T'=aV (decide (T'+50<4096)&& (decide (T'<4096)&& (true&& (true&& (true&& (decide (T'<= 1000000)&&true))))))
  (some (({ OD (uU (bk i j f dl till T' 0 true)) T' with poll:=iZ (OD (uU (bk i j f dl till T' 0 true)) T').poll (1,1) true false,wh:=(nK (wP T') (T'+50) 0).1 } :SrS).put 0 ⟨cn0 T',0,0,0,(1,1),(nK (wP T') (T'+50) 0).2,true,T'+50,false⟩)):=rfl
 rw[e2,g3,g2,g1];exact⟨_,rfl,rfl,rfl,rfl⟩
theorem Nk (i j f dl till:Nat) (T':Nat) (h1:T'+50<4096) (hf:f<= 1000) (hd:dl<= 1000):
 ∃s',pq (bk i j f dl till T' 0 true) T'=some (s',true)/\ s'.failed=f/\ s'.accepted=1/\ s'.net.queue= []:=by
 obtain⟨s',h,a,b,c⟩:=Nj i j f dl till T' h1 hf;have g2:decide (f<= 1000000)=true:=decide_eq_true (by omega)
 have g3:decide (dl<= 1073741824)=true:=decide_eq_true (by omega)
 have g4:decide (T'<= 1000000)=true:=decide_eq_true (by omega)
 have e:pq (bk i j f dl till T' 0 true) T'=aV (true&& ((true&& (true&& (true&& (decide (f<= 1000000)&& (true&& (true&&true))))))&& (true&& (true&& (true&& (decide (f<= 1000000)&& (decide (dl<= 1073741824)&&decide (T'<= 1000000))))))))
  (aV true ((sS (uU (bk i j f dl till T' 0 true)) 0 0 T').map fun s=>(s,true))):=rfl
 refine⟨s',?_,a,b,c⟩;rw[e,g2,g3,g4,h];rfl
theorem QX (i j f dl till T:Nat) (rd:Bool) (T':Nat) (h:T<4096) (h1:T'+50<4096) (h2:T<= T') (h3:till<= T') (hf:f<= 1000) (hd:dl<= 1000):
 ∃s',kD (bk i j f dl till T 0 rd) T'=some (s',1)/\ s'.failed=f/\ s'.accepted=1:=by
 obtain⟨s',hk,a,b,c⟩:=Nk i j f dl till T' h1 hf hd;refine⟨s',?_,a,b⟩;rw[kD,if_neg (by simp[bk,yS]),Nc _ _ _ _ _ _ _ _ _ (by omega) h2,Hw _ _ _ _ _ _ _ _ _ h (by omega) h2,Option.bind_some]
 have hT:decide (T'<= 1000000)=true:=decide_eq_true (by omega)
 have hL:dJ T' 16 (bk i j f dl till T' 0 true)=some s':=by
  rw[dJ,if_neg (by rw[OC _ _ _ _ _ _ _ _ _ h3];simp[bk]),hk]
  show dJ T' 15 s'=some s';rw[dJ,if_pos (by rw[c];simp)]
 have hm:=OC i j f dl till T' 0 rd T' h3;have hr:kP (bk i j f dl till T' 0 rd)=true:=rfl;simp only[hm,hr,Bool.true_and,Bool.true_or,hT];have e:(if true=(bk i j f dl till T' 0 rd).reading then bk i j f dl till T' 0 rd else { bk i j f dl till T' 0 rd with reading:=true,poll:=iZ (bk i j f dl till T' 0 rd).poll (bk i j f dl till T' 0 rd).handle true false })=bk i j f dl till T' 0 true:=by
  cases rd<;>rfl
 rw[e,if_neg (by simp[bk,yS])]
 show aV _ (Option.map (fun s3=>(s3,1)) ((dJ T' 16 (bk i j f dl till T' 0 true)).bind fun s=>some s))=_
 rw[hL];cases rd<;>rfl
theorem WZ (i j k:Nat): ∃x,sZ (Ci (cfB i j) tK) 0=some x/\ JL x k=⟨bk i j 0 0 0 0 k true,1,0⟩:=⟨_,rfl,rfl⟩
end Go.Proofs.YtdmondfpepbniaaGreatDoor
