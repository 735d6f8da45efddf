/- Part 25 of the proof: VsA VlA RPar LwR15 Tk15 Vk. -/
import Derived.Test.YtdmondfpepbniaaGreatDoorQ20
import Derived.Test.YtdmondfpepbniaaGreatDoorQ22
namespace Go.Proofs.YtdmondfpepbniaaGreatDoor
open Go.RowKit
set_option maxRecDepth 100000
set_option maxHeartbeats 4000000
set_option linter.all false
theorem EL {s:iU} (h:qK s=true):s.len<s.limit/\ s.limit<= 4096/\ s.slots.length<= 4096/\ ∀x∈s.slots,x.gen<= 1000000:=by
 simp[qK,Bool.and_eq_true,List.all_eq_true]at h;exact h
theorem QH (l:List fG) (k:Nat) (h:k<aP l): ∃x,l[k]? = some x/\ x.used=true:=by
 have hk:k<l.length:=Nat.lt_of_lt_of_le h (List.findIdx_le_length);refine⟨l[k],List.getElem?_eq_getElem hk,?_⟩;have:=List.not_of_lt_findIdx h;simpa using this
theorem Wx (l:List fG) (x:fG) (h:l[aP l]? = some x):x.used=false:=by
 have hk:aP l<l.length:=(List.getElem?_eq_some_iff.1 h).1;have:=List.findIdx_getElem (w:=hk);have e:l[aP l]=x:=(List.getElem?_eq_some_iff.1 h).2;unfold aP at e;rw[e]at this;simpa using this
theorem QI:(Tryz.prog.info? 229).map (fun i=>(i.zero,i.size,i.bytes))=some (some (.agg #[.int .i64 0,.bool false,.int .i64 0]),3,24):=by kernel_rfl
theorem Oo (w:World) (t:Nat-> Nat) (m g:Nat) (s:iU) (v:Int) (hK:jT w t m g s) (hok:qK s=true):
 Calls Tryz.prog 115 #[.pointer (some ⟨g,0,none⟩),.int .i64 v] w fun e w'=>e= .returned (.tuple #[hnV (dQ s v).2,.int .i64 0])/\ ∃t',jT w' t' m g (dQ s v).1/\ Stp (jf m) w t w' t':=by
 obtain⟨h1,h2,h3,h4⟩:=EL hok;obtain⟨v0,hb,hr⟩:=hK;obtain⟨A,c,rfl,hnc,hcm,-,-⟩:=hr.form;have c0:((s.len:Int)==(s.limit:Int))=false:=by simp;omega
 have hfl:aP s.slots<= s.slots.length:=List.findIdx_le_length;go_enter Tryz.func115,Tryz.ntmps115
 go_upto_region 3 with(fail)
 obtain⟨V,hV⟩: ∃V,V=w.alloc (.cells #[.int .i64 0,.int .i64 0] 72):=⟨_,rfl⟩;rw[<- hV];have SV:Stp (jf m) w t V (upT t w (m+2)):=by rw[hV];exact Stp.alloc _ _ _ _ _
 have BV:BT V (upT t w (m+2)) (m+2) w.heap.size 72 #[.int .i64 0,.int .i64 0]:=by rw[hV];exact BT.new _ _ _ _ _
 have SF:Stp (fun _=>False) w t V (upT t w (m+2)):=by rw[hV];exact Stp.alloc _ _ _ _ _
 clear hV;have hb:=hb.keep SF id;have hr:=hr.keep SF id;clear SF;obtain⟨j0,j1,j2,i0,i1,i2⟩:=hb.b.c3;go_quiet (fail)
 go_wp2_with fail
 obtain⟨U,hU⟩: ∃U,U=V.drewN nq:=⟨_,rfl⟩;rw[<- hU];have SV:Stp (jf m) w t U (upT t w (m+2)):=by rw[hU];exact SV.drewN _
 have BV:BT U (upT t w (m+2)) (m+2) w.heap.size 72 #[.int .i64 0,.int .i64 0]:=by rw[hU];exact BV.drewN _
 have hb:BT U (upT t w (m+2)) m g 232 #[.int .i64 (s.limit:Int),.slice A s.slots.length c,.int .i64 (s.len:Int)]:=by rw[hU];exact hb.drewN _
 have hr:RT U (upT t w (m+2)) (m+1) 229 3 (.slice A s.slots.length c) s.slots.length (bZ s.slots):=by rw[hU];exact hr.drewN _
 clear hU i0 i1 i2 j0 j1 j2;obtain⟨j0,j1,j2,i0,i1,i2⟩:=hb.b.c3;go_loopw [6] (fun i wr=> ∃k:Nat,i= .int .i64 k/\ k<= aP s.slots/\ U=wr) (fun i _=>aP s.slots- (intOf i).toNat)
 case atStart=>exact⟨0,rfl,Nat.zero_le _,rfl⟩
 case round=>
  obtain⟨k,rfl,hk,rfl⟩:=hrel;rcases Nat.lt_or_ge k (aP s.slots)with hlt|hge
  ·obtain⟨x,hx,hu⟩:=QH _ _ hlt
   have hkl:k<s.slots.length:=(List.getElem?_eq_some_iff.1 hx).1;have d1:decide ((k:Int)< (s.slots.length:Int))=true:=by simp;omega
   have d2:(k:Int)< (s.slots.length:Int):=by omega
   obtain⟨gr,off,cp,hv,hm,-,-,y0,y1,y2,-,-,-⟩:=hr.slot rfl k x hx;injection hv with hv1 _ hv2
   subst hv1;subst hv2;rw[hu]at y1;go_wp2_with fail
   go_roundw
   case rel=>exact⟨k+1,by go_num,hlt,trivial⟩
   case measure=>simp[intOf];omega
  ·obtain rfl:k=aP s.slots:=by omega
   rcases hx:s.slots[aP s.slots]? with _|x
   ·have hkl:aP s.slots=s.slots.length:=by
     have:s.slots.length<= aP s.slots:=by simpa using hx
     omega
    have HP:dQ s v=({ s with slots:=s.slots++ [⟨1,true,v⟩],len:=s.len+1 },(s.slots.length,1)):=by
     simp only[dQ,hx];rw[hkl]
    have d1:decide ((aP s.slots:Int)< (s.slots.length:Int))=false:=by simp;omega
    have d3:((aP s.slots:Int)==(s.slots.length:Int))=true:=by simp;omega
    rw[hkl]at d1 d3⊢
    go_wp2_with (
     at_builtin
     refine qy rfl _ _ 230 rfl 229 _ 3 24 Tryz.underlying230 QI rfl (upT t w (m+2)) (m+1) (.slice A s.slots.length c) s.slots.length (bZ s.slots) rfl hr [.int .i64 0,.bool false,.int .i64 0] U.heap.size rfl rfl rfl (by decide) (by omega) ?_
     intro v' w2 t2 hr2 hs2;have hb2:=hb.keep (hs2 (fun x=>x=m+1) rfl) (by omega)
     have BV2:=BV.keep (hs2 (fun x=>x=m+1) rfl) (by omega)
     have hx2:(s.slots++ [(⟨0,false,0⟩:fG)])[s.slots.length]? = some ⟨0,false,0⟩:=by simp
     have hr3:RT w2 t2 (m+1) 229 3 v' (s.slots.length+1) (bZ (s.slots++ [(⟨0,false,0⟩:fG)])):=by rw[MI];exact hr2
     obtain⟨gr,off,cp,rfl,hm,-,-,y0,y1,y2,n0,n1,n2⟩:=hr3.slot (by simp) _ _ hx2
     clear j0 j1 j2 i0 i1 i2;obtain⟨j0,j1,j2,i0,i1,i2⟩:=hb2.b.c3;obtain⟨z0,z1,u0,u1⟩:=BV2.b.c2;have e1:gr≠g:=fun e=>by have:=hb2.m;rw[<- e,hm]at this;omega
     have e2:gr≠w.heap.size:=fun e=>by have:=BV2.m;rw[<- e,hm]at this;omega
     have e3:g≠w.heap.size:=fun e=>by have:=BV2.m;rw[<- e,hb2.m]at this;omega
     have d4:(s.slots.length:Int)< ((s.slots.length+1:Nat):Int):=by omega)
    obtain⟨W,hW⟩: ∃W,W=w2.setCell ⟨g,1,none⟩ (.slice (some ⟨gr,off,none⟩) (s.slots.length+1) cp):=⟨_,rfl⟩;rw[<- hW];have hb3:BT W t2 m g 232 #[.int .i64 (s.limit:Int),.slice (some ⟨gr,off,none⟩) (s.slots.length+1) cp,.int .i64 (s.len:Int)]:=by rw[hW];exact hb2.ay 1 _
    have SW:Stp (jf m) w t W t2:=by
     rw[hW];exact(SV.trans (hs2 (jf m) (by omega)) fun _ h=>h).trans (Stp.setCell hb2 (by omega) 1 _) fun _ h=>h
    have BV3:=BV2.far (p:=⟨g,1,none⟩) (fun e=>e3 e.symm) (.slice (some ⟨gr,off,none⟩) (s.slots.length+1) cp)
    rw[<- hW]at BV3;have hr4:=hr3.keep (Stp.setCell (S:=fun x=>x=m) hb2 rfl 1 (.slice (some ⟨gr,off,none⟩) (s.slots.length+1) cp)) (by omega)
    rw[<- hW]at hr4;clear hW hb2 BV2 hr3 y0 y1 y2 n0 n1 n2 j0 j1 j2 i0 i1 i2 z0 z1 u0 u1;obtain⟨gr',off',cp',hv,hm',-,-,y0,y1,y2,n0,n1,n2⟩:=hr4.slot (by simp) _ _ hx2
    injection hv with hv1 _ hv2
    injection hv1 with hv1
    injection hv1 with hv3 hv4
    subst hv3 hv4 hv2;obtain⟨j0,j1,j2,i0,i1,i2⟩:=hb3.b.c3;obtain⟨z0,z1,u0,u1⟩:=BV3.b.c2;go_region
    obtain⟨hr5,s5⟩:=hr4.wJ (S:=jf m) (by omega) s.slots.length (by omega) (by simp) ⟨1,true,v⟩
    rw[show(s.slots++ [(⟨0,false,0⟩:fG)]).set s.slots.length ⟨1,true,v⟩=s.slots++ [⟨1,true,v⟩] by simp]at hr5
    obtain⟨X,hX⟩: ∃X,X=((W.setCell ⟨gr,off+s.slots.length*3,none⟩ (.int .i64 (1:Int))).setCell ⟨gr,off+s.slots.length*3+1,none⟩ (.bool true)).setCell ⟨gr,off+s.slots.length*3+2,none⟩ (.int .i64 v):=⟨_,rfl⟩;have s6:Stp (fun x=>x=m+1) W t2 X t2:=by rw[hX];exact(hr4.wJ (S:=fun x=>x=m+1) rfl s.slots.length (by omega) (by simp) ⟨1,true,v⟩).2
    have hr5:RT X t2 (m+1) 229 3 (.slice (some ⟨gr,off,none⟩) (s.slots.length+1) cp) (s.slots.length+1) (bZ (s.slots++ [⟨1,true,v⟩])):=by rw[hX];exact hr5
    have s5:Stp (jf m) W t2 X t2:=by rw[hX];exact s5
    rw[<- hX];clear hX hr4;have hb5:=hb3.keep s6 (by omega)
    have BV5:=BV3.keep s6 (by omega)
    clear j0 j1 j2 i0 i1 i2 z0 z1 u0 u1 y0 y1 y2 n0 n1 n2 hb3 BV3 hm hm';obtain⟨j0,j1,j2,i0,i1,i2⟩:=hb5.b.c3;obtain⟨z0,z1,u0,u1⟩:=BV5.b.c2;obtain⟨gr',off',cp',hv,hm',-,-,y0,y1,y2,-,-,-⟩:=hr5.slot (by simp) s.slots.length ⟨1,true,v⟩ (by simp)
    injection hv with hv1 _ hv2
    injection hv1 with hv1
    injection hv1 with hv3 hv4
    subst hv3 hv4 hv2;go_wp2_with fail
    have q1:=Stp.setCell (S:=fun x=>x=m) hb5 rfl 2 (.int .i64 ((s.len:Int)+1))
    have b1:=hb5.ay 2 (.int .i64 ((s.len:Int)+1));have q2:=Stp.setCell (S:=fun x=>x=m+2) (BV5.keep q1 (by omega)) rfl 0 (.int .i64 (s.slots.length:Int))
    have q3:=Stp.setCell (S:=fun x=>x=m+2) ((BV5.keep q1 (by omega)).ay 0 (.int .i64 (s.slots.length:Int))) rfl 1 (.int .i64 1)
    have q4:=Stp.setCell (S:=jf m) hb5 (by omega) 2 (.int .i64 ((s.len:Int)+1))
    have SE:=((SW.trans s5 fun _ h=>h).trans q4 fun _ h=>h).trans (q2.trans q3 fun _ h=>h) fun x (h:x=m+2)=>(show m<= x/\ x<m+5 by omega)
    obtain⟨f0,f1,-,-⟩:=(BV5.keep q1 (by omega)).b.c2
    refine bodyPost_ret (v:=.tuple #[hnV (s.slots.length,1),.int .i64 0]) (by simp[results,Tryz.results115,go_sem,f0,f1]) rfl ⟨rfl,t2,⟨.slice (some ⟨gr,off,none⟩) (s.slots.length+1) cp,(((b1.keep q2 (by omega)).keep q3 (by omega)).to (by simp)).drew,((((hr5.keep q1 (by omega)).keep q2 (by omega)).keep q3 (by omega)).to (by simp)).drew⟩,SE.drew⟩
   ·have hu:=Wx _ _ hx
    have hkl:aP s.slots<s.slots.length:=(List.getElem?_eq_some_iff.1 hx).1;have d1:decide ((aP s.slots:Int)< (s.slots.length:Int))=true:=by simp;omega
    have d2:(aP s.slots:Int)< (s.slots.length:Int):=by omega
    have d3:((aP s.slots:Int)==(s.slots.length:Int))=false:=by simp;omega
    obtain⟨gr,off,cp,hv,hm,-,-,y0,y1,y2,n0,n1,n2⟩:=hr.slot rfl _ x hx;injection hv with hv1 _ hv2
    subst hv1;subst hv2;rw[hu]at y1;have hgen:x.gen<= 1000000:=h4 x (List.mem_of_getElem? hx);have HP:dQ s v=({ s with slots:=s.slots.set (aP s.slots) ⟨x.gen+1,true,v⟩,len:=s.len+1 },(aP s.slots,x.gen+1)):=by
     simp only[dQ,hx]
    go_wp2_with fail
    go_region
    obtain⟨hr5,s5⟩:=hr.wJ (S:=jf m) (by omega) (aP s.slots) hkl rfl ⟨x.gen+1,true,v⟩
    obtain⟨X,hX⟩: ∃X,X=((U.setCell ⟨gr,off+aP s.slots*3,none⟩ (.int .i64 ((x.gen+1:Nat):Int))).setCell ⟨gr,off+aP s.slots*3+1,none⟩ (.bool true)).setCell ⟨gr,off+aP s.slots*3+2,none⟩ (.int .i64 v):=⟨_,rfl⟩;rw[show((x.gen:Int)+1)=((x.gen+1:Nat):Int) by omega]
    have s6:Stp (fun x=>x=m+1) U (upT t w (m+2)) X (upT t w (m+2)):=by rw[hX];exact(hr.wJ (S:=fun x=>x=m+1) rfl (aP s.slots) hkl rfl ⟨x.gen+1,true,v⟩).2
    rw[<- hX]at hr5 s5⊢;clear hX hr;have hb5:=hb.keep s6 (by omega)
    have BV5:=BV.keep s6 (by omega)
    clear j0 j1 j2 i0 i1 i2 y0 y1 y2 n0 n1 n2 hb BV hm;obtain⟨j0,j1,j2,i0,i1,i2⟩:=hb5.b.c3;obtain⟨z0,z1,u0,u1⟩:=BV5.b.c2;obtain⟨gr',off',cp',hv,hm',-,-,y0,y1,y2,-,-,-⟩:=hr5.slot (by simp) (aP s.slots) ⟨x.gen+1,true,v⟩ (by simp[hkl])
    injection hv with hv1 _ hv2
    injection hv1 with hv1
    injection hv1 with hv3 hv4
    subst hv3 hv4 hv2;have e1:gr≠g:=fun e=>by have:=hb5.m;rw[<- e,hm']at this;omega
    have e2:gr≠w.heap.size:=fun e=>by have:=BV5.m;rw[<- e,hm']at this;omega
    have e3:g≠w.heap.size:=fun e=>by have:=BV5.m;rw[<- e,hb5.m]at this;omega
    go_wp2_with fail
    have q1:=Stp.setCell (S:=fun x=>x=m) hb5 rfl 2 (.int .i64 ((s.len:Int)+1))
    have b1:=hb5.ay 2 (.int .i64 ((s.len:Int)+1));have q2:=Stp.setCell (S:=fun x=>x=m+2) (BV5.keep q1 (by omega)) rfl 0 (.int .i64 (aP s.slots:Int))
    have q3:=Stp.setCell (S:=fun x=>x=m+2) ((BV5.keep q1 (by omega)).ay 0 (.int .i64 (aP s.slots:Int))) rfl 1 (.int .i64 ((x.gen:Int)+1))
    have q4:=Stp.setCell (S:=jf m) hb5 (by omega) 2 (.int .i64 ((s.len:Int)+1))
    have SE:=((SV.trans s5 fun _ h=>h).trans q4 fun _ h=>h).trans (q2.trans q3 fun _ h=>h) fun x (h:x=m+2)=>(show m<= x/\ x<m+5 by omega)
    obtain⟨f0,f1,-,-⟩:=(BV5.keep q1 (by omega)).b.c2
    refine bodyPost_ret (v:=.tuple #[hnV (aP s.slots,x.gen+1),.int .i64 0]) (by simp[results,Tryz.results115,go_sem,f0,f1]) rfl ⟨rfl,upT t w (m+2),⟨.slice (some ⟨gr,off,none⟩) s.slots.length c,(((b1.keep q2 (by omega)).keep q3 (by omega)).to (by simp)).drew,((((hr5.keep q1 (by omega)).keep q2 (by omega)).keep q3 (by omega)).to (by simp)).drew⟩,SE.drew⟩
theorem BP {s:iU} (h:qK s=true) (v:Int):iH (dQ s v).2:=by
 obtain⟨h1,h2,h3,h4⟩:=EL h;have hl:aP s.slots<= s.slots.length:=List.findIdx_le_length;rcases hx:s.slots[aP s.slots]? with _|x
 ·simp only[dQ,hx]
  exact⟨by show aP s.slots<= _;omega,by show 1<= _;omega⟩
 ·simp only[dQ,hx]
  have:=h4 x (List.mem_of_getElem? hx);exact⟨by show aP s.slots<= _;omega,by show x.gen+1<= _;omega⟩
theorem JB {α β:Type} [DecidableEq α] (L:List (α×(Nat×β))) (k:Nat) (hlt: ∀y∈L,y.2.1<k) (hd:(L.map (·.2.1)).Nodup) (hn:(L.map (·.1)).Nodup) (a:α) (x:β):((bK L a (k,x)).map (·.2.1)).Nodup:=by
 have: ∀l:List (α×(Nat×β)),(∀y∈l,y.2.1<k)->(l.map (·.2.1)).Nodup->(l.map (·.1)).Nodup->((dL l a (k,x)).map (·.2.1)).Nodup:=by
  intro l
  induction l with
  |nil=>intro _ _ _;simp[dL]
  |cons y l ih=>
   intro h1 h2 hk;rw[List.map_cons,List.nodup_cons]at h2 hk;by_cases hy:y.1=a
   ·have hn:dL l a (k,x)=l:=zO l a _ fun p hp e=>hk.1 (by rw[hy,<- e];exact List.mem_map_of_mem hp)
    rw[show dL (y::l) a (k,x)=(a,(k,x))::dL l a (k,x) by simp[dL,hy],hn,List.map_cons,List.nodup_cons]
    refine⟨fun hm=> ?_,h2.2⟩
    obtain⟨z,hz,e⟩:=List.mem_map.1 hm;have:=h1 z (List.mem_cons_of_mem _ hz);simp only at e;omega
   ·rw[show dL (y::l) a (k,x)=y::dL l a (k,x) by simp[dL,hy],List.map_cons,List.nodup_cons]
    refine⟨fun hm=> ?_,ih (fun z hz=>h1 z (List.mem_cons_of_mem _ hz)) h2.2 hk.2⟩
    obtain⟨z,hz,e⟩:=List.mem_map.1 hm;rw[dL,List.mem_map]at hz;obtain⟨q,hq,rfl⟩:=hz;have h5:=h1 y (List.mem_cons_self ..);split at e
    ·simp only at e;omega
    ·exact h2.1 (by rw[<- e];exact List.mem_map_of_mem (f:=fun z:α×(Nat×β)=>z.2.1) hq)
 rw[bK];split
 ·exact this L hlt hd hn
 ·rw[List.map_append,List.nodup_append]
  refine⟨hd,by simp,fun u hu v hv=> ?_⟩
  obtain⟨z,hz,rfl⟩:=List.mem_map.1 hu;have:=hlt z hz;simp only[List.map_cons,List.map_nil,List.mem_singleton]at hv;subst hv;omega
def gp (g:Nat):Value:=.pointer (some ⟨g,0,none⟩)
theorem Blk.c11 {w:World} {g:Nat} {t:TypeId} {a0 a1 a2 a3 a4 a5 a6 a7 a8 a9 a10:Value} (h:Blk w g t #[a0,a1,a2,a3,a4,a5,a6,a7,a8,a9,a10]):(w.cell? ⟨g,0,none⟩=some a0/\ w.cell? ⟨g,1,none⟩=some a1/\ w.cell? ⟨g,2,none⟩=some a2/\ w.cell? ⟨g,3,none⟩=some a3/\ w.cell? ⟨g,4,none⟩=some a4/\ w.cell? ⟨g,5,none⟩=some a5/\ w.cell? ⟨g,6,none⟩=some a6/\ w.cell? ⟨g,7,none⟩=some a7/\ w.cell? ⟨g,8,none⟩=some a8/\ w.cell? ⟨g,9,none⟩=some a9/\ w.cell? ⟨g,10,none⟩=some a10)/\ ∀i,w.frozen? ⟨g,i,none⟩=false:=
 ⟨⟨h.cell 0,h.cell 1,h.cell 2,h.cell 3,h.cell 4,h.cell 5,h.cell 6,h.cell 7,h.cell 8,h.cell 9,h.cell 10⟩,fun i=>h.frozen i⟩
theorem EM {w:World} {g base size:Nat} {t:TypeId} (h:Blk w g t #[]) (hb:base<= g):Own w base t size (.slice (some ⟨g,0,none⟩) 0 0) 0 []:=
 ⟨by simp,.inr ⟨g,0,#[],(0,0),rfl,hb,h,.inl (Nat.le_refl _),Nat.le_refl _,by unfold maxLen;omega,by simp,by simp⟩⟩
theorem l1 (W:World) (t:TypeId) (size:Nat):Own (W.alloc (.cells #[] t)).drew W.heap.size t size (.slice (some ⟨W.heap.size,0,none⟩) 0 0) 0 []:=
 EM (Blk.drew (Blk.new' _ _ rfl _ _)) (Nat.le_refl _)
theorem l2 (W:World) (o:Obj) (t:TypeId) (size:Nat):Own ((W.alloc o).alloc (.cells #[] t)).drew W.heap.size t size (.slice (some ⟨W.heap.size+1,0,none⟩) 0 0) 0 []:=
 EM (Blk.drew (Blk.new' _ _ (by simp) _ _)) (Nat.le_succ _)
theorem l3 (W:World) (o:Obj) (t:TypeId) (size:Nat):Own ((W.alloc (.cells #[] t)).alloc o).drew W.heap.size t size (.slice (some ⟨W.heap.size,0,none⟩) 0 0) 0 []:=
 EM (Blk.drew (Blk.alloc (Blk.new' _ _ rfl _ _) _)) (Nat.le_refl _)
theorem l4 {B:Nat} {w:World} (t:TypeId) (size:Nat) (h:B<= w.heap.size):Own (w.alloc (.cells #[] t)) B t size (.slice (some ⟨w.heap.size,0,none⟩) 0 0) 0 []:=
 EM (Blk.new' _ _ rfl _ _) h
theorem l5 {W w:World} {v:Value} {o:Obj} (t:TypeId) (size:Nat) (h:Ext ((W.alloc o).alloc (.cells #[] t)).drew w (.slice (some ⟨W.heap.size,0,none⟩) 0 0) v):Own w W.heap.size t size (.slice (some ⟨W.heap.size+1,0,none⟩) 0 0) 0 []:=
 EM (Blk.fr (Blk.drew (Blk.new' _ _ (by simp) _ _)) h.fr (by simp[Value.ownBlock])) (Nat.le_succ _)
theorem l6 {W w:World} {v:Value} {o:Obj} (t:TypeId) (size:Nat) (h:Ext ((W.alloc (.cells #[] t)).alloc o).drew w (.slice (some ⟨W.heap.size+1,0,none⟩) 0 0) v):Own w W.heap.size t size (.slice (some ⟨W.heap.size,0,none⟩) 0 0) 0 []:=
 EM (Blk.fr (Blk.drew (Blk.alloc (Blk.new' _ _ rfl _ _) _)) h.fr (by simp[Value.ownBlock])) (Nat.le_refl _)
theorem own_ne {wc wF:World} {a b:Nat} {v:Value} (h:Ext wc wF (.slice (some ⟨a,0,none⟩) 0 0) v) (hab:a≠b) (hb:b<wc.heap.size): ∀k,v.ownBlock=some k-> ¬(Value.slice (some ⟨b,0,none⟩) 0 0).ownBlock=some k:=by
 intro k hk he;have h1:some b=some k:=he;injection h1 with h1
 rcases h.own k hk with h2|h2
 ·have h3:some a=some k:=h2
  injection h3 with h3
  omega
 ·omega
abbrev XTS (g gh:Nat) (A:Option Addr) (n c:Nat) (AB:Option Addr) (nb cb:Nat) (h:HS) (w:World):Prop:=
 w.cell? ⟨gh,0,none⟩=some (.slice A n c)/\ w.cell? ⟨gh,1,none⟩=some (sv h.method)/\ w.cell? ⟨gh,2,none⟩=some (.int .i64 h.tgt.form)/\ w.cell? ⟨gh,3,none⟩=some (sv h.tgt.host)/\ w.cell? ⟨gh,4,none⟩=some (sv h.tgt.path)/\ w.cell? ⟨gh,5,none⟩=some (sv h.tgt.query)/\ w.cell? ⟨gh,6,none⟩=some (.int .i64 h.minor)/\ w.cell? ⟨g,6,none⟩=some (.bool h.how.close)/\ w.cell? ⟨g,7,none⟩=some (.bool h.how.expect)/\ w.cell? ⟨g,8,none⟩=some (.slice AB nb cb)
theorem XTS.below {g gh:Nat} {A:Option Addr} {n c:Nat} {AB:Option Addr} {nb cb:Nat} {h:HS} {w w':World} (k:XTS g gh A n c AB nb cb h w) (L:Below w.heap.size w w') (h1:g<w.heap.size) (h2:gh<w.heap.size):XTS g gh A n c AB nb cb h w':=by
 obtain⟨a0,a1,a2,a3,a4,a5,a6,a7,a8,a9⟩:=k;exact⟨(L.cell (p:=⟨gh,0,none⟩) h2).trans a0,(L.cell (p:=⟨gh,1,none⟩) h2).trans a1,(L.cell (p:=⟨gh,2,none⟩) h2).trans a2,(L.cell (p:=⟨gh,3,none⟩) h2).trans a3,(L.cell (p:=⟨gh,4,none⟩) h2).trans a4,(L.cell (p:=⟨gh,5,none⟩) h2).trans a5,(L.cell (p:=⟨gh,6,none⟩) h2).trans a6,(L.cell (p:=⟨g,6,none⟩) h1).trans a7,(L.cell (p:=⟨g,7,none⟩) h1).trans a8,(L.cell (p:=⟨g,8,none⟩) h1).trans a9⟩
theorem XTS.fr {g gh:Nat} {A:Option Addr} {n c:Nat} {AB:Option Addr} {nb cb:Nat} {h:HS} {w w':World} {T:Nat-> Prop} (k:XTS g gh A n c AB nb cb h w) (L:Fr T w w') (t1: ¬T g) (t2: ¬T gh) (h1:g<w.heap.size) (h2:gh<w.heap.size):XTS g gh A n c AB nb cb h w':=by
 obtain⟨a0,a1,a2,a3,a4,a5,a6,a7,a8,a9⟩:=k;exact⟨(L.cell (p:=⟨gh,0,none⟩) h2 t2).trans a0,(L.cell (p:=⟨gh,1,none⟩) h2 t2).trans a1,(L.cell (p:=⟨gh,2,none⟩) h2 t2).trans a2,(L.cell (p:=⟨gh,3,none⟩) h2 t2).trans a3,(L.cell (p:=⟨gh,4,none⟩) h2 t2).trans a4,(L.cell (p:=⟨gh,5,none⟩) h2 t2).trans a5,(L.cell (p:=⟨gh,6,none⟩) h2 t2).trans a6,(L.cell (p:=⟨g,6,none⟩) h1 t1).trans a7,(L.cell (p:=⟨g,7,none⟩) h1 t1).trans a8,(L.cell (p:=⟨g,8,none⟩) h1 t1).trans a9⟩
structure RQR (w:World) (r:RQ) (AF:Option Addr) (AB:Option Addr):Prop where
 f:Rd w w.heap.size 2 AF r.f.length (aQ r.f)
 b:Rd w w.heap.size 1 AB r.b.length (r.b.map bv)
theorem RQR.ah {w w':World} {r:RQ} {AF AB:Option Addr} (h:RQR w r AF AB) (L:Below w.heap.size w w'):RQR w' r AF AB:=
 ⟨(h.f.ah (Nat.le_refl _) L).more L.size,(h.b.ah (Nat.le_refl _) L).more L.size⟩
def rqV (r:RQ) (AF:Option Addr) (cF:Nat) (AB:Option Addr) (cB:Nat):Value:=MH r.m r.t r.v (.slice AF r.f.length cF) (.slice AB r.b.length cB) r.c r.e
theorem PR.ah {w w':World} {g:Nat} {S:Nat-> Prop} {p:PS} (h:PR w g S p) (L:Below w.heap.size w w'):PR w' g S p:=by
 obtain⟨x,e,k⟩:=h;exact⟨x,e,k.ah L⟩
theorem PR.lt {w:World} {g:Nat} {S:Nat-> Prop} {p:PS} (h:PR w g S p) {k:Nat} (hk:S k):k<w.heap.size:=by
 obtain⟨x,rfl,q⟩:=h;exact q.lt hk
theorem PR.fr {w w':World} {g:Nat} {S T:Nat-> Prop} {p:PS} (h:PR w g S p) (hf:Fr T w w') (hs: ∀k,S k-> ¬T k):PR w' g S p:=by
 obtain⟨x,rfl,q⟩:=h;exact⟨x,rfl,q.fr hf hs⟩
def FeedP (w:World) (g:Nat) (S:Nat-> Prop) (q:Nat×PS) (e:Ending) (w':World):Prop:=
 e= .returned (.int .i64 (q.1:Int))/\ ji q.2/\ ∃S',PR w' g S' q.2/\ Moved S S' w w'
theorem QJ (g:Nat) (S:Nat-> Prop) (p:PS) (A:Option Addr) (n cp:Nat) (ps:List Bs) (w:World) (q:PR w g S p) (hi:ji p) (hA:RdP w S A n ps) (hn:ps.flatten.length<= 1000000) (hf:p.fed<= 900000000) (hm:ML w) (hh:Hi S) (hnl:n<= 1000000):
 Calls Tryz.prog 249 #[.pointer (some ⟨g,0,none⟩),.slice A n cp] w (FeedP w g S (aB p ps.flatten)):=by
 obtain⟨x,rfl,q⟩:=q;refine(VY g p x A n cp ps w q hi hA hn hf hm hh hnl).mono ?_;rintro e w' ⟨rfl,hi',x',k',m'⟩;exact⟨rfl,hi',_,⟨x',rfl,k'⟩,m'⟩
theorem RdO.lit {w:World} {S:Nat-> Prop} (hS: ∀k,S k-> k<w.heap.size) (g:Nat) (hg:g=w.heap.size) (l:List Value) (t:TypeId) (fr:Nat×Nat) (n:Nat) (hn:l.length=n):RdO (w.alloc (.cells l.toArray t fr)) S (some ⟨g,0,none⟩) n l:=by
 subst hg;exact⟨(Rd.XZ w _ rfl l t fr n 1 (by omega)).more (by simp),fun _ a ha hs=>by injection ha with ha;subst ha;exact Nat.lt_irrefl _ (hS _ hs)⟩
theorem RdP.two {w:World} {S:Nat-> Prop} (hS: ∀k,S k-> k<w.heap.size) (g:Nat) (hg:g=w.heap.size) (t:TypeId) (p1 p2:Bs) {A1 A2:Option Addr} {n1 n2 c1 c2:Nat} (e1:p1.length=n1) (e2:p2.length=n2) (h1:RdO w S A1 n1 (p1.map bv)) (h2:RdO w S A2 n2 (p2.map bv)) (l1:n1<= c1) (l2:n2<= c2):
 RdP (w.alloc (.cells #[.slice A1 n1 c1,.slice A2 n2 c2] t)) S (some ⟨g,0,none⟩) 2 [p1,p2]:=by
 subst e1 e2;refine⟨[.slice A1 p1.length c1,.slice A2 p2.length c2],RdO.lit hS g hg _ t (0,0) 2 rfl,rfl,fun i p hp=> ?_⟩
 match i,hp with
 |0,hp=>
  obtain rfl:p1=p:=by simpa using hp
  exact⟨A1,c1,rfl,l1,h1.ah (aj (Below.refl _ _) _)⟩
 |1,hp=>
  obtain rfl:p2=p:=by simpa using hp
  exact⟨A2,c2,rfl,l2,h2.ah (aj (Below.refl _ _) _)⟩
theorem RdP.one {w:World} {S:Nat-> Prop} (hS: ∀k,S k-> k<w.heap.size) (g:Nat) (hg:g=w.heap.size) (t:TypeId) (p1:Bs) {A1:Option Addr} {n1 c1:Nat} (e1:p1.length=n1) (h1:RdO w S A1 n1 (p1.map bv)) (l1:n1<= c1):
 RdP (w.alloc (.cells #[.slice A1 n1 c1] t)) S (some ⟨g,0,none⟩) 1 [p1]:=by
 subst e1;refine⟨[.slice A1 p1.length c1],RdO.lit hS g hg _ t (0,0) 1 rfl,rfl,fun i p hp=> ?_⟩
 match i,hp with
 |0,hp=>
  obtain rfl:p1=p:=by simpa using hp
  exact⟨A1,c1,rfl,l1,h1.ah (aj (Below.refl _ _) _)⟩
def rq0:RQ:=⟨[],bY,0,[],[],false,false⟩
theorem rq0_r (w:World):RQR w rq0 none none:=⟨Rd.nil _ _ _ _,Rd.nil _ _ _ _⟩
def rT (p:PS):RQ:=if p.phase=3 then wE p else rq0
def eT (p:PS):Int:=if p.phase=3 then 0 else 4
def pT (p:PS):PS:=if p.phase=3 then p0 else p
def RQO (r:RQ) (AF AB:Option Addr) (X:Nat-> Prop):Prop:=(0<r.f.length-> ∀a,AF=some a-> ¬X a.block)/\ (0<r.b.length-> ∀a,AB=some a-> ¬X a.block)
theorem rqo0 (X:Nat-> Prop):RQO rq0 none none X:=⟨fun _ a ha=>(by cases ha),fun _ a ha=>(by cases ha)⟩
theorem RQR.fr {w w':World} {r:RQ} {AF AB:Option Addr} {X:Nat-> Prop} (h:RQR w r AF AB) (ho:RQO r AF AB X) (hf:Fr X w w'):RQR w' r AF AB:=
 ⟨(h.f.frm (Nat.le_refl _) hf ho.1).more hf.size,(h.b.frm (Nat.le_refl _) hf ho.2).more hf.size⟩
def Wy (w:World) (g:Nat) (S:Nat-> Prop) (p:PS) (e:Ending) (w':World):Prop:=
 ∃(AF:Option Addr) (cF:Nat) (AB:Option Addr) (cB:Nat),e= .returned (.tuple #[rqV (rT p) AF cF AB cB,.int .i64 (eT p)])/\ RQR w' (rT p) AF AB/\ (∀X:Nat-> Prop,(∀k,X k-> k<w.heap.size/\ ¬S k)-> RQO (rT p) AF AB X)/\ ∃S',PR w' g S' (pT p)/\ Moved S S' w w'
theorem QK (g:Nat) (S:Nat-> Prop) (p:PS) (w:World) (q:PR w g S p) (hi:ji p):
 Calls Tryz.prog 251 #[.pointer (some ⟨g,0,none⟩)] w (Wy w g S p):=by
 by_cases hp:p.phase=3
 ·refine(GV g S p w q hp hi).mono ?_
  rintro e w3 ⟨AF,cF,AB,cB,rfl,hr1,hn1,hr2,hn2,S3,q3,m3,hS3⟩;have e1:rT p=wE p:=if_pos hp;have e2:eT p=0:=if_pos hp;have e3:pT p=p0:=if_pos hp;unfold Wy;rw[e1,e2,e3];exact⟨AF,cF,AB,cB,rfl,⟨hr1,hr2⟩,fun X hX=>⟨fun h0 a ha hx=>by have:=hn1 h0 a ha;have:=(hX _ hx).1;omega,fun h0 a ha hx=>(hX _ hx).2 (hn2 h0 a ha).1⟩,S3,q3,m3⟩
 ·refine(GU g S p w q hp).mono ?_
  rintro e w3 ⟨rfl,L3⟩;have e1:rT p=rq0:=if_neg hp;have e2:eT p=4:=if_neg hp;have e3:pT p=p:=if_neg hp;unfold Wy;rw[e1,e2,e3];exact⟨none,0,none,0,rfl,rq0_r _,fun X _=>rqo0 X,S,q.ah L3,(Moved.refl _ _).ah L3⟩
structure Y3 (w:World) (t:Nat-> Nat) (τ g:Nat) (p:PS) (S:Nat-> Prop):Prop where
 r:PR w g S p
 i:ji p
 m: ∀k,S k-> t k=τ
 h:Hi S
def yY (w:World) (t:Nat-> Nat) (τ g:Nat) (p:PS):Prop:= ∃S,Y3 w t τ g p S
theorem yY.keep {S:Nat-> Prop} {w w':World} {t t':Nat-> Nat} {τ g:Nat} {p:PS} (h:yY w t τ g p) (st:Stp S w t w' t') (h0: ¬S τ):yY w' t' τ g p:=by
 obtain⟨F,a⟩:=h;exact⟨F,a.r.fr st.fr fun k hk hs=>h0 (by rw[<- a.m k hk];exact hs),a.i,fun k hk=>(st.old k (a.r.lt hk)).trans (a.m k hk),a.h⟩
theorem Y3.moved {S S':Nat-> Prop} {w w':World} {t:Nat-> Nat} {τ g:Nat} {p q:PS} (h:Y3 w t τ g p S) (hm:ML w) (hr:PR w' g S' q) (hi:ji q) (m:Moved S S' w w'):Y3 w' (upT t w τ) τ g q S'/\ Stp (fun x=>x=τ) w t w' (upT t w τ):=
 ⟨⟨hr,hi,fun k hk=>by
    rcases m.foot k hk with h1|h1
    ·rw[iq (h.r.lt h1)];exact h.m k h1
    ·exact iO h1,h.h.moved hm m⟩,Stp.ofFr m.fr (fun k hk _=>h.m k hk) τ⟩
theorem Oq (w:World) (t:Nat-> Nat) (τ:Nat) (hm:ML w):
 Calls Tryz.prog 281 #[] w fun e w'=> ∃g,e= .returned (.pointer (some ⟨g,0,none⟩))/\ ∃t',yY w' t' τ g p0/\ Stp (fun _=>False) w t w' t':=by
 refine(Oi w).mono ?_;rintro e w1 ⟨⟨g,S,rfl,hr,hS⟩,L1⟩;refine⟨g,rfl,upT t w τ,⟨S,hr,VJ,fun k hk=>iO (hS k hk),fun k hk=>Nat.lt_of_lt_of_le hm.lt (hS k hk)⟩,Stp.dB L1 _ _⟩
theorem nY (w:World) (t:Nat-> Nat) (τ g:Nat) (p:PS) (h:yY w t τ g p):
 Calls Tryz.prog 198 #[.pointer (some ⟨g,0,none⟩)] w fun e w'=>e= .returned (.int .i64 (p.phase:Int))/\ w=w':=by
 obtain⟨S,h⟩:=h;exact Qw g S p w h.r
theorem QL (w:World) (t:Nat-> Nat) (τ g:Nat) (p:PS) (h:yY w t τ g p):
 Calls Tryz.prog 254 #[.pointer (some ⟨g,0,none⟩)] w fun e w'=>e= .returned (.bool (BD p))/\ Below w.heap.size w w':=by
 obtain⟨S,h⟩:=h;exact QA g S p w h.r
theorem WA (w:World) (t:Nat-> Nat) (τ g:Nat) (p:PS) (h:yY w t τ g p) (hm:ML w) (l:Bs) (A:Option Addr) (cp:Nat) (A1:Option Addr) (c1:Nat) (hl:l.length<= 1000000) (hf:p.fed<= 900000000)
 (h2: ∃y o,A=some ⟨y,o,none⟩/\ y<w.heap.size/\ t y≠τ/\ w.cell? ⟨y,o,none⟩=some (.slice A1 l.length c1)) (hc:l.length<= c1) (hr:Rd w w.heap.size 1 A1 l.length (l.map bv)) (ha: ∀a,A1=some a-> t a.block≠τ):
 Calls Tryz.prog 249 #[.pointer (some ⟨g,0,none⟩),.slice A 1 cp] w fun e w'=>e= .returned (.int .i64 ((aB p l).1:Int))/\ ∃t',yY w' t' τ g (aB p l).2/\ Stp (fun x=>x=τ) w t w' t':=by
 obtain⟨S,h⟩:=h;obtain⟨y,o,rfl,hy,hty,hcell⟩:=h2;have hA:RdP w S (some ⟨y,o,none⟩) 1 [l]:=by
  refine⟨[.slice A1 l.length c1],⟨⟨rfl,fun _=>⟨y,o,rfl,hy,fun j u hu=> ?_⟩⟩,fun _ a ha' hs=> ?_⟩,rfl,fun i q hq=> ?_⟩
  ·obtain rfl:j=0:=by
    rcases Nat.lt_or_ge j 1 with h1|h1
    ·omega
    ·rw[List.getElem?_eq_none (by simpa using h1)]at hu;cases hu
   simp at hu;subst hu;simpa using hcell
  ·injection ha' with ha';subst ha';exact hty (h.m _ hs)
  ·obtain⟨rfl,rfl⟩:i=0/\ q=l:=by
    rcases Nat.lt_or_ge i 1 with h1|h1
    ·obtain rfl:i=0:=by omega
     simp at hq;exact⟨rfl,hq.symm⟩
    ·rw[List.getElem?_eq_none (by simpa using h1)]at hq;cases hq
   exact⟨A1,c1,rfl,hc,hr,fun _ a ha' hs=>ha a ha' (h.m _ hs)⟩
 have:=QJ g S p (some ⟨y,o,none⟩) 1 cp [l] w h.r h.i hA (by simpa using hl) hf hm h.h (by omega)
 rw[show [l].flatten=l by simp]at this
 refine this.mono ?_;rintro e w1 ⟨rfl,hi',S',hr',m'⟩;obtain⟨k1,k2⟩:=h.moved hm hr' hi' m';exact⟨rfl,_,⟨S',k1⟩,k2⟩
theorem WB (w:World) (t:Nat-> Nat) (τ g:Nat) (p:PS) (h:yY w t τ g p) (hm:ML w) (hp:p.phase=3):
 Calls Tryz.prog 251 #[.pointer (some ⟨g,0,none⟩)] w fun e w'=> ∃AF cF AB cB,e= .returned (.tuple #[rqV (wE p) AF cF AB cB,.int .i64 0])/\ RQR w' (wE p) AF AB/\ ∃t',yY w' t' τ g p0/\ Stp (fun x=>x=τ) w t w' t':=by
 obtain⟨S,h⟩:=h;refine(QK g S p w h.r h.i).mono ?_;rintro e w1 ⟨AF,cF,AB,cB,rfl,hq,-,S',hr',m'⟩;have e1:rT p=wE p:=if_pos hp;have e2:eT p=0:=if_pos hp;have e3:pT p=p0:=if_pos hp;rw[e1]at hq⊢;rw[e2];rw[e3]at hr';obtain⟨k1,k2⟩:=h.moved hm hr' VJ m';exact⟨AF,cF,AB,cB,rfl,hq,_,⟨S',k1⟩,k2⟩
structure GL (w:World) (t:Nat-> Nat):Prop where
 ml:ML w
 tb:Tab10 w
 tz:TZ w
 m0:t 0=0
 m1:t 5=0
 m2:t 7=0
theorem aaI {w:World} (h:Tab10 w):5<w.heap.size:=by
 unfold Tab10 Lib.TabIs World.var? at h;rw[show Tryz.prog.globalNamed "internal/strconv.uint64pow10" =some 5 by kernel_rfl]at h
 rcases Nat.lt_or_ge 5 w.heap.size with h1|h1
 ·exact h1
 ·simp[Array.getElem?_eq_none h1]at h
theorem WC {w w':World} (h:Tab10 w) (e:w'.heap[5]? = w.heap[5]?):Tab10 w':=by
 unfold Tab10 Lib.TabIs World.var? at h⊢;rw[show Tryz.prog.globalNamed "internal/strconv.uint64pow10" =some 5 by kernel_rfl]at h⊢
 simp only[Option.bind_some]at h⊢;rw[e];exact h
theorem tz_lt {w:World} (h:TZ w):7<w.heap.size:=by
 unfold TZ at h;rcases Nat.lt_or_ge 7 w.heap.size with h1|h1
 ·exact h1
 ·simp[World.cell?,Array.getElem?_eq_none h1]at h
theorem GL.keep {S:Nat-> Prop} {w w':World} {t t':Nat-> Nat} (h:GL w t) (st:Stp S w t w' t') (h0: ¬S 0):GL w' t':=by
 have l0:=h.ml.lt;have l1:=aaI h.tb;have l2:=tz_lt h.tz;refine⟨?_,WC h.tb (st.block l1 (by rw[h.m1];exact h0)),?_,(st.old _ l0).trans h.m0,(st.old _ l1).trans h.m1,(st.old _ l2).trans h.m2⟩
 ·obtain⟨m,hm⟩:=h.ml
  exact⟨m,(st.fr.cell (p:=⟨0,0,none⟩) l0 (by show¬S (t _);rw[h.m0];exact h0)).trans hm⟩
 ·exact(st.fr.cell (p:=⟨7,15,none⟩) l2 (by show¬S (t _);rw[h.m2];exact h0)).trans h.tz
theorem GL.new {w:World} (h1:ML w) (h2:Tab10 w) (h3:TZ w):GL w (fun _=>0):=⟨h1,h2,h3,rfl,rfl,rfl⟩
end Go.Proofs.YtdmondfpepbniaaGreatDoor
