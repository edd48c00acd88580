/- Clusters: what the document's functions answer. -/
import Derived.Test.YtlaijgoahmigmaaGreatDoorGdW4
set_option maxRecDepth 100000
namespace Gm
open Go
def bI (i:Bool):Int:=if i=true then 1 else 0
theorem bI_not (i:Bool):IntKind.i64.wrap (1 - bI i)=bI (!i):=by cases i <;> rfl
theorem lsend_ok {l:Link} {i:Bool} {ps:List Str} (hu:l.up=true) (h1:(toC l i).length≤100000) (h2:ps.length≤100000) {K:(Link×Int)->Prop} (k:K (setTo l i (toC l i++ps),0)):q84.F l (bI i) ps K:=by
 unfold q84.F
 cases i
 ·have h1:l.to0.length≤100000:=h1
  refine cond_f rfl (cond_f (by rw [hu];rfl) (cond_t rfl (gd_ok (fit_ok (by omega)) (gd_ok (fit_ok (by omega)) (cond_t rfl k)))))
 ·have h1:l.to1.length≤100000:=h1
  refine cond_t rfl (cond_f rfl (cond_f (by rw [hu];rfl) (cond_f rfl (cond_t rfl (gd_ok (fit_ok (by omega)) (gd_ok (fit_ok (by omega)) (cond_f rfl (cond_t rfl k))))))))
theorem close_ok {l:Link} {K:Link->Prop} (k:K (closeL l)):q85.F l K:=k
def sndP (n0 n1:Node) (l:Link) (w0 w1:Bool) (out:List Outp) (K:CO->Prop):Prop:=
 bif !n1.up then K (⟨n0,n1,l,w0,w1⟩,out)else q86.F n1 fun r=>bif decide ((out.length+r.2.length) * 48≤room)then(bif !r.1.up then K (⟨n0,r.1,l,w0,false⟩,out++r.2)else K (⟨n0,r.1,l,w0,w1⟩,out++r.2))else False
def endP (c:Cluster) (out:List Outp) (K:CO->Prop):Prop:=
 q85.F c.link fun r=>bif !c.n0.up then sndP c.n0 c.n1 r c.w0 c.w1 out K else q86.F c.n0 fun q=>bif decide ((out.length+q.2.length) * 48≤room)then(bif !q.1.up then sndP q.1 c.n1 r false c.w1 (out++q.2) K else sndP q.1 c.n1 r c.w0 c.w1 (out++q.2) K)else False
def sndP0 (n0 n1:Node) (l:Link) (w0 w1:Bool) (K:CO->Prop):Prop:=
 bif !n1.up then K (⟨n0,n1,l,w0,w1⟩,[])else q86.F n1 fun r=>bif decide (r.2.length * 48≤room)then(bif !r.1.up then K (⟨n0,r.1,l,w0,false⟩,r.2)else K (⟨n0,r.1,l,w0,w1⟩,r.2))else False
def endP0 (c:Cluster) (K:CO->Prop):Prop:=
 q85.F c.link fun r=>bif !c.n0.up then sndP0 c.n0 c.n1 r c.w0 c.w1 K else q86.F c.n0 fun q=>bif decide (q.2.length * 48≤room)then(bif !q.1.up then sndP q.1 c.n1 r false c.w1 q.2 K else sndP q.1 c.n1 r c.w0 c.w1 q.2 K)else False
section
variable {N:Nat} (hN:N≤6000) (h64:64≤N)
include hN h64
theorem snd_ok {n0 n1:Node} {l:Link} {w0 w1:Bool} {out:List Outp} (o:OkN N n1) (ho:out.length≤1000) {K:CO->Prop} (k:K (loseC (⟨n0,n1,l,w0,w1⟩,out) true)):sndP n0 n1 l w0 w1 out K:=by
 unfold loseC at k
 unfold sndP
 refine cond_ok (fun h=>?_) (fun h=>?_)
 ·rw [if_pos (show(nodeC (⟨n0,n1,l,w0,w1⟩:Cluster) true).up=false from not_t h)] at k;exact k
 rw [if_neg (show ¬ (nodeC (⟨n0,n1,l,w0,w1⟩:Cluster) true).up=false from nf (not_f h))] at k
 dsimp only at k
 have hl:=(okO_lose n1).1
 refine lose_ok (by omega) h64 o (gd_ok (out_ok (by omega)) (cond_ok (fun h=>?_) (fun h=>?_)))
 ·rw [if_pos (show(loseN (nodeC (⟨n0,n1,l,w0,w1⟩:Cluster) true)).1.up=false from not_t h)] at k;exact k
 ·rw [if_neg (show ¬ (loseN (nodeC (⟨n0,n1,l,w0,w1⟩:Cluster) true)).1.up=false from nf (not_f h))] at k;exact k
theorem end_ok {c:Cluster} {out:List Outp} (o:OkC N c) (ho:out.length≤900) {K:CO->Prop} (k:K (endC c out)):endP c out K:=by
 obtain ⟨n0,n1,l,w0,w1⟩:=c
 have o0:OkN N n0:=o.a
 have o1:OkN N n1:=o.b
 unfold endC at k
 unfold endP
 refine close_ok (cond_ok (fun h=>?_) (fun h=>?_))
 ·refine snd_ok hN h64 o1 (by omega) (use_eq k ?_)
  have:loseC (({ (⟨n0,n1,l,w0,w1⟩:Cluster) with link:=closeL l }),out) false=(⟨n0,n1,closeL l,w0,w1⟩,out):=by
   unfold loseC
   rw [if_pos (show(nodeC (⟨n0,n1,closeL l,w0,w1⟩:Cluster) false).up=false from not_t h)]
  rw [this]
 have hl:=(okO_lose n0).1
 refine lose_ok (by omega) h64 o0 (gd_ok (out_ok (by omega)) (cond_ok (fun h2=>?_) (fun h2=>?_)))
 ·refine snd_ok hN h64 o1 (by rw [List.length_append];omega) (use_eq k ?_)
  have:loseC (({ (⟨n0,n1,l,w0,w1⟩:Cluster) with link:=closeL l }),out) false=(⟨(loseN n0).1,n1,closeL l,false,w1⟩,out++(loseN n0).2):=by
   unfold loseC
   rw [if_neg (show ¬ (nodeC (⟨n0,n1,closeL l,w0,w1⟩:Cluster) false).up=false from nf (not_f h))]
   dsimp only
   rw [if_pos (show(loseN (nodeC (⟨n0,n1,closeL l,w0,w1⟩:Cluster) false)).1.up=false from not_t h2)]
   rfl
  rw [this]
 ·refine snd_ok hN h64 o1 (by rw [List.length_append];omega) (use_eq k ?_)
  have:loseC (({ (⟨n0,n1,l,w0,w1⟩:Cluster) with link:=closeL l }),out) false=(⟨(loseN n0).1,n1,closeL l,w0,w1⟩,out++(loseN n0).2):=by
   unfold loseC
   rw [if_neg (show ¬ (nodeC (⟨n0,n1,closeL l,w0,w1⟩:Cluster) false).up=false from nf (not_f h))]
   dsimp only
   rw [if_neg (show ¬ (loseN (nodeC (⟨n0,n1,closeL l,w0,w1⟩:Cluster) false)).1.up=false from nf (not_f h2))]
   rfl
  rw [this]
omit hN h64 in
theorem endP_nil {c:Cluster} {K:CO->Prop} (h:endP c [] K):endP0 c K:=by
 have e:∀ n0 n1 l w0 w1,sndP n0 n1 l w0 w1 [] K=sndP0 n0 n1 l w0 w1 K:=by
  intro n0 n1 l w0 w1
  unfold sndP sndP0
  simp only [List.length_nil,Nat.zero_add,List.nil_append]
 unfold endP at h
 simp only [List.length_nil,Nat.zero_add,List.nil_append,e] at h
 exact h
end
def fin (c1:Cluster) (i:Bool) (up closes:Bool) (out:List Outp):CO:=
 if (if up=false then setW c1 i false else c1).link.up=false∨(up=true∧closes=false)then(if up=false then setW c1 i false else c1,out)
 else endC (if closes=true then { (if up=false then setW c1 i false else c1) with w0:=false,w1:=false } else(if up=false then setW c1 i false else c1)) out
theorem after_of (c:Cluster) (i:Bool) (r:NO):afterC c i r=fin (putC (setN c i r.1) i r.2) i r.1.up (r.2.any fun o=>o.kind==3) (r.2.filter fun o=>!(o.kind==1)):=rfl
section
variable {N:Nat} (hN:N≤6000) (h64:64≤N)
include hN h64
theorem kx_ok {x:q87.L0} {i:Bool} (hi:x.i=bI i) (o:OkC N x.m0) (ho:x.out.length≤900) {K:CO->Prop} (k:K (fin x.m0 i x.m1.up x.closes x.out)) :
  q87.kx0V q84.F q85.F q86.F K x:=by
 have ends:∀ c:Cluster,OkC N c->K (endC c x.out)->endP c x.out K:=fun c oc h=>end_ok hN h64 oc ho h
 have ow:∀ (a b:Bool),OkC N ⟨x.m0.n0,x.m0.n1,x.m0.link,a,b⟩:=fun a b=>⟨o.a,o.b,o.l⟩
 unfold q87.kx0V
 unfold fin at k
 rw [hi]
 cases hu:x.m1.up <;> cases hl:x.m0.link.up <;> cases hc:x.closes <;> cases i <;> rw [hu,hc] at k
 all_goals
  simp only [Bool.not_true,Bool.not_false,cond_true,cond_false,show(bI false==0)=true from rfl,show(bI true==0)=false from rfl,show(bI true==1)=true from rfl]
 all_goals
  simp only [if_true,if_false,Bool.false_eq_true,Bool.true_eq_false,setW,hl,true_or,or_true,false_or,and_false,false_and,and_self] at k
 all_goals first
  | exact k
  | exact ends _ (ow _ _) k
  | exact ends _ o k
theorem after_ok {c:Cluster} {i:Bool} {n:Node} {l:List Outp} (o:OkC N c) (on:OkN N n) (hl:OkO 3 l) (hNl:N+10≤6000) {K:CO->Prop} (k:K (afterC c i (n,l))):q87.F c (bI i) n l K:=by
 rw [after_of] at k
 have o1:=okC_set o (Nat.le_refl N) on i
 have put_up:∀ (c:Cluster) (l:List Outp),(putC c i l).link.up=c.link.up:=by
  intro c l
  unfold putC
  split
  ·cases i <;> rfl
  ·rfl
 have main:∀ (m2:Cluster) (kx:q87.L0->Prop),(∀ x:q87.L0,x.i=bI i->OkC (N+3) x.m0->x.out.length≤900->K (fin x.m0 i x.m1.up x.closes x.out)->kx x)->
   ∃ m,loopB (q87.b0V q84.F q85.F q86.F) m kx (fun _=>False) ⟨bI i,l,[],false,0,setN c i n,n,m2⟩:=by
  intro m2 kx hkx
  refine loop_ok (I:=fun x:q87.L0=>∃ j:Nat,j≤l.length∧x=⟨bI i,l,(l.take j).filter fun o=>!(o.kind==1),(l.take j).any fun o=>o.kind==3,j,putC (setN c i n) i (l.take j),n,m2⟩)
   (m:=fun x:q87.L0=>l.length - x.k.toNat) ?_ ⟨0,by omega,?_⟩
  ·rintro _ ⟨j,hj,rfl⟩ rec hrec
   unfold q87.b0V
   dsimp only
   refine cond_ok (fun h1=>?_) (fun h1=>?_)
   ·have hlt:=lt_of_dec h1
    have hw:IntKind.i64.wrap ((j:Int)+1)=((j+1:Nat):Int):=wrap_lt hlt (by have:=hl.1;unfold big;omega)
    have hm:l.length - ((j+1:Nat):Int).toNat < l.length - ((j:Nat):Int).toNat:=by omega
    have et:=take_succ hlt
    have hlen:=hl.1
    have hf:((l.take j).filter fun o=>!(o.kind==1)).length≤3:=Nat.le_trans (List.length_filter_le _ _) (by rw [List.length_take];omega)
    refine oget_ok (getI_ok hlt) (cond_ok (fun h2=>?_) (fun h2=>?_))
    ·have hk:(l[j].kind==1)=true:=h2
     have h3:(l[j].kind==3)=false:=by rw [eq_t hk];rfl
     have eo:(l.take (j+1)).filter (fun o=>!(o.kind==1))=(l.take j).filter fun o=>!(o.kind==1):=by
      rw [et,List.filter_append,List.filter_cons_of_neg (by rw [hk];simp),List.filter_nil,List.append_nil]
     have ec:((l.take (j+1)).any fun o=>o.kind==3)=(l.take j).any fun o=>o.kind==3:=by
      rw [et,List.any_append]
      simp only [List.any_cons,List.any_nil,h3,Bool.or_false]
     refine cond_ok (fun h4=>?_) (fun h4=>?_)
     ·rw [put_up] at h4
      have hq:∀ x:Link,toC (putC (setN c i n) i (l.take j)).link (!i)=toC (setN c i n).link (!i)++((l.take j).filter fun o=>o.kind==1).map (·.data):=by
       intro _
       unfold putC
       rw [if_pos h4]
       cases i <;> rfl
      refine oget_ok (getI_ok hlt) ?_
      rw [bI_not]
      have hq:=hq zL
      refine lsend_ok (by rw [put_up];exact h4) ?_ (by simp) ?_
      ·rw [hq,List.length_append,List.length_map]
       have h5:=(o1.l.to (!i)).1
       have h6:=List.length_filter_le (fun o:Outp=>o.kind==1) (l.take j)
       rw [List.length_take] at h6
       omega
      ·rw [hw]
       refine hrec _ ⟨j+1,hlt,?_⟩ hm
       rw [eo,ec]
       congr 1
       rw [hq]
       have e1:((l.take (j+1)).filter fun o=>o.kind==1)=((l.take j).filter fun o=>o.kind==1)++[l[j]]:=by
        rw [et,List.filter_append,List.filter_cons_of_pos (p:=fun o:Outp=>o.kind==1) hk,List.filter_nil]
       unfold putC
       rw [if_pos h4,if_pos h4,e1,List.map_append,← List.append_assoc]
       cases i <;> rfl
     ·rw [put_up] at h4
      rw [hw]
      refine hrec _ ⟨j+1,hlt,?_⟩ hm
      rw [eo,ec]
      congr 1
      unfold putC
      rw [if_neg (nt h4),if_neg (nt h4)]
    ·have hk:(l[j].kind==1)=false:=h2
     have eo:(l.take (j+1)).filter (fun o=>!(o.kind==1))=((l.take j).filter fun o=>!(o.kind==1))++[l[j]]:=by
      rw [et,List.filter_append,List.filter_cons_of_pos (by rw [hk];rfl),List.filter_nil]
     have ep:putC (setN c i n) i (l.take (j+1))=putC (setN c i n) i (l.take j):=by
      unfold putC
      have:((l.take (j+1)).filter fun o=>o.kind==1)=((l.take j).filter fun o=>o.kind==1):=by
       rw [et,List.filter_append,List.filter_cons_of_neg (by rw [hk];simp),List.filter_nil,List.append_nil]
      rw [this]
     have ec:((l.take (j+1)).any fun o=>o.kind==3)=(((l.take j).any fun o=>o.kind==3)||(l[j].kind==3)):=by
      rw [et,List.any_append]
      simp only [List.any_cons,List.any_nil,Bool.or_false]
     refine cond_ok (fun h4=>?_) (fun h4=>?_)
     ·refine oget_ok (getI_ok hlt) (gd_ok (out_ok (by rw [List.length_singleton];omega)) ?_)
      rw [hw]
      refine hrec _ ⟨j+1,hlt,?_⟩ hm
      rw [eo,ep,ec,h4,Bool.true_or]
     ·refine oget_ok (getI_ok hlt) (oget_ok (getI_ok hlt) (gd_ok (out_ok (by rw [List.length_singleton];omega)) ?_))
      rw [hw]
      refine hrec _ ⟨j+1,hlt,?_⟩ hm
      rw [eo,ep,ec,h4,Bool.false_or]
   ·have e:=le_of_dec h1 hj
    subst e
    rw [List.take_length]
    refine hkx _ rfl ?_ ?_ k
    ·exact okC_put o1 i hl
    ·have:=List.length_filter_le (fun o:Outp=>!(o.kind==1)) l
     have:=hl.1
     dsimp only
     omega
  ·have:putC (setN c i n) i (l.take 0)=setN c i n:=by
    unfold putC
    split
    ·cases i <;> simp [setTo,toC]
    ·rfl
   simp only [this]
   rfl
 unfold q87.F q87.FV
 cases i
 ·exact cond_t rfl (main _ _ (fun x h1 h2 h3 h4=>kx_ok (N:=N+3) (by omega) (by omega) h1 h2 h3 h4))
 ·exact cond_f rfl (cond_t rfl (main _ _ (fun x h1 h2 h3 h4=>kx_ok (N:=N+3) (by omega) (by omega) h1 h2 h3 h4)))
end
end Gm

set_option maxRecDepth 100000
namespace Gm
open Go
theorem room0:decide ((([]:List Outp).length+([]:List Outp).length) * 48≤room)=true:=decide_eq_true (by decide)
set_option maxHeartbeats 1000000 in
theorem connect_ok {N:Nat} {c:Cluster} {i:Bool} (o:OkC N c) {K:CO->Prop} (k:K (connectC c i)):q88.F c (bI i) K:=by
 have oa:=o.a
 have ob:=o.b
 have u1:inK .u64 (IntKind.u64.wrap (c.link.session+1)):=(okC_open o).l.s
 unfold q88.F q88.FV
 rcases c with ⟨⟨i0,up0,st0,pr0,sa0,se0,pe0,pp0,rq0,as0,ai0,wa0,mi0,dr0,ms0⟩,⟨i1,up1,st1,pr1,sa1,se1,pe1,pp1,rq1,as1,ai1,wa1,mi1,dr1,ms1⟩,⟨lu,ls,t0,t1⟩,w0,w1⟩
 have b0:OkN N (beginN ⟨i0,true,st0,pr0,sa0,se0,pe0,pp0,rq0,as0,ai0,wa0,mi0,dr0,ms0⟩ (IntKind.u64.wrap (ls+1))).1:=okN_begin ⟨oa.st,oa.se,oa.pe,oa.rq,oa.dl,oa.dg,oa.ml,oa.wa⟩ u1
 have b1:OkN N (beginN ⟨i1,true,st1,pr1,sa1,se1,pe1,pp1,rq1,as1,ai1,wa1,mi1,dr1,ms1⟩ (IntKind.u64.wrap (ls+1))).1:=okN_begin ⟨ob.st,ob.se,ob.pe,ob.rq,ob.dl,ob.dg,ob.ml,ob.wa⟩ u1
 cases i
 ·refine cond_t rfl ?_
  cases up0
  ·cases up1 <;> exact k
  cases up1
  ·cases w1 <;> exact k
  cases w1
  ·exact k
  cases lu
  ·refine cond_t rfl (cond_t rfl (cond_f rfl (cond_f rfl (own_ok ?_))))
   refine send_ok (by exact b0.se) (by exact own_w b0) ?_
   refine lsend_ok (i:=true) rfl (by exact(show([]:List Str).length≤100000 from by decide)) (by simp) ?_
   refine cond_f rfl (own_ok ?_)
   refine send_ok (by exact b1.se) (by exact own_w b1) ?_
   refine cond_t rfl (lsend_ok (i:=false) rfl (by exact(show([]:List Str).length≤100000 from by decide)) (by simp) ?_)
   refine cond_f rfl (cond_t room0 ?_)
   exact k
  ·exact k
 ·refine cond_f rfl (cond_t rfl ?_)
  cases up1
  ·cases up0 <;> exact k
  cases up0
  ·cases w0 <;> exact k
  cases w0
  ·exact k
  cases lu
  ·refine cond_t rfl (cond_t rfl (cond_f rfl (cond_f rfl (own_ok ?_))))
   refine send_ok (by exact b0.se) (by exact own_w b0) ?_
   refine lsend_ok (i:=true) rfl (by exact(show([]:List Str).length≤100000 from by decide)) (by simp) ?_
   refine cond_f rfl (own_ok ?_)
   refine send_ok (by exact b1.se) (by exact own_w b1) ?_
   refine cond_t rfl (lsend_ok (i:=false) rfl (by exact(show([]:List Str).length≤100000 from by decide)) (by simp) ?_)
   refine cond_f rfl (cond_t room0 ?_)
   exact k
  ·exact k
def ninP (i:Bool) (c:Cluster) (K:CO->Prop):Prop:=
 bif((toC c.link i).length:Int)==0 then K (c,[])else oget (getI (toC c.link i) 0) fun v=>bif decide (0≤1)&&decide (1≤((toC c.link i).length:Int))then
  (bif decide ((sub (toC c.link i) (Int.toNat 1) (toC c.link i).length).length * 16≤room)then
    q122.F (nodeC c i) v fun r=>q87.F { c with link:=setTo c.link i (sub (toC c.link i) (Int.toNat 1) (toC c.link i).length) } (bI i) r.1 r.2 fun q=>K (q.1,q.2)else False)else False
def offP (c:Cluster) (K:CO->Prop):Prop:=bif !c.link.up then K (c,[])else endP0 c K
def doP (i:Bool) (c:Cluster) (e:Event) (K:CO->Prop) (P9:Prop):Prop:=
 bif e.kind==1 then(q65.F (nodeC c i) e.id fun r=>q87.F c (bI i) r.1 r.2 fun q=>K (q.1,q.2))else
 bif e.kind==2 then(q66.F (nodeC c i) e.id fun r=>q87.F c (bI i) r.1 r.2 fun q=>K (q.1,q.2))else
 bif e.kind==3 then(q67.F (nodeC c i) e.id fun r=>q87.F c (bI i) r.1 r.2 fun q=>K (q.1,q.2))else
 bif e.kind==4 then(q69.F (nodeC c i) e.id e.block fun r=>q87.F c (bI i) r.1 r.2 fun q=>K (q.1,q.2))else
 bif e.kind==5 then(q81.F (nodeC c i) e.id e.block e.data fun r=>q87.F c (bI i) r.1 r.2 fun q=>K (q.1,q.2))else
 bif e.kind==6 then(q88.F c (bI i) fun q=>K (q.1,q.2))else
 bif e.kind==7 then(bif e.kind==7 then offP (setW c i false) K else offP c K)else
 bif e.kind==8 then(bif e.kind==7 then offP (setW c i false) K else offP c K)else
 bif e.kind==9 then P9 else
 bif e.kind==10 then(bif !(nodeC c i).up then K (c,[])else q63.F (nodeC c i) fun r=>q87.F c (bI i) r [] fun q=>K (q.1,q.2))else
 bif e.kind==11 then(q44.F (nodeC c i) e.keeps fun r=>q46.F r.1 e.id r.2 [] fun q=>K (setN c i r.1,[q]))else
 bif e.kind==12 then(bif(nodeC c i).up then(q123.F (nodeC c i).store.disk (IntKind.i64.wrap (minI e.num 1000)) fun r=>q87.F c (bI i) (setSt (nodeC c i) ⟨r,(nodeC c i).store.sup,(nodeC c i).store.mask⟩) [] fun q=>K (q.1,q.2))else
  q87.F c (bI i) (nodeC c i) [] fun q=>K (q.1,q.2))else
 bif e.kind==13 then(bif decide (((nodeC c i).draws.length:Int) < 1000)then(bif decide ((nodeC c i).draws.length * 8≤room)then(bif decide (((nodeC c i).draws.length+([e.num]:List Int).length) * 8≤room)then
  K (setN c i { nodeC c i with draws:=(nodeC c i).draws++[e.num] },[])else False)else False)else K (c,[]))else
 bif e.kind==14 then(q92.F e.data c.link.session fun r=>bif r.2==0 then K (c,[])else q122.F (nodeC c i) e.data fun r=>q87.F c (bI i) r.1 r.2 fun q=>K (q.1,q.2))else
 K (c,[])
theorem setN_same (c:Cluster) (i:Bool):setN c i (nodeC c i)=c:=by cases i <;> rfl
theorem min_eq (x:Int):minI x 1000=min x 1000:=by
 unfold minI
 split <;> omega
section
variable {N:Nat} (hN:N≤5900) (h64:64≤N)
include hN h64
theorem off_ok {c:Cluster} (o:OkC N c) {K:CO->Prop} (k:K (if c.link.up=true then endC c [] else(c,[]))):offP c K:=by
 unfold offP
 refine cond_ok (fun h=>?_) (fun h=>?_)
 ·rw [if_neg (nt (not_t h))] at k;exact k
 ·rw [if_pos (not_f h)] at k
  exact endP_nil (end_ok (by omega) h64 o (by decide) k)
theorem nin_ok {c:Cluster} {i:Bool} (o:OkC N c) {K:CO->Prop} (k:K (match toC c.link i with
  | []=>(c,[])
  | b :: r=>afterC { c with link:=setTo c.link i r } i (receiveN (nodeC c i) b))):ninP i c K:=by
 unfold ninP
 have hto:=o.l.to i
 cases hq:toC c.link i with
 | nil=>
  rw [hq] at k
  exact cond_t rfl k
 | cons b r=>
  rw [hq] at k hto
  have e:sub (b :: r) (Int.toNat 1) (b :: r).length=r:=by
   unfold sub
   rw [List.take_length]
   rfl
  have hr:r.length≤N:=by have:=hto.1;simp at this;omega
  have o1:OkC N { c with link:=setTo c.link i r }:=⟨o.a,o.b,okL_to o.l i hr (fun x hx=>hto.2 x (List.mem_cons_of_mem _ hx))⟩
  refine cond_f (by rw [List.length_cons];exact beq_eq_false_iff_ne.2 (by omega)) (oget_ok (v:=b) rfl (gd_ok (by rw [List.length_cons];simp;omega) (gd_ok (fit_ok (by rw [e];omega)) ?_)))
  rw [e]
  have hb:=hto.2 b (by simp)
  refine receive_ok (by omega) h64 (o.node i) (by omega) ?_
  exact after_ok (N:=N+4) (by omega) (by omega) (o1.up (by omega)) (okN_receive (o.node i) h64) (okO_receive _ _) (by omega) k
omit hN h64 in
theorem kd {k v:Int} {α:Type} {a b:α} {K:α->Prop} {P Q:Prop} (h1:k=v->K a->P) (h2:k≠v->K b->Q) (h:K (if k=v then a else b)):bif k==v then P else Q:=by
 by_cases e:k=v
 ·rw [if_pos e] at h
  exact cond_t (beq_iff_eq.2 e) (h1 e h)
 ·rw [if_neg e] at h
  exact cond_f (beq_eq_false_iff_ne.2 e) (h2 e h)
theorem do_at {c:Cluster} {e:Event} {i:Bool} (o:OkC N c) (oe:OkE e) {K:CO->Prop} {P9:Prop} (p9:ninP i c K->P9) (k:K (doAt c e i)):doP i c e K P9:=by
 have on:=o.node i
 have aft:∀ {n:Node} {l:List Outp},OkN (N+4) n->OkO 3 l->K (afterC c i (n,l))->q87.F c (bI i) n l fun q=>K (q.1,q.2):=
  fun h1 h2 h3=>after_ok (N:=N+4) (by omega) (by omega) (o.up (by omega)) h1 h2 (by omega) h3
 unfold doP
 revert k
 unfold doAt
 refine kd (fun _ k=>promote_ok (by omega) h64 on (aft (okN_promote on h64) (okO_promote _ _) k)) fun _=>?_
 refine kd (fun _ k=>demote_ok (by omega) h64 on (aft (okN_demote on h64) (okO_demote _ _) k)) fun _=>?_
 refine kd (fun _ k=>discard_ok (by omega) h64 on (aft (okN_discard on h64) (okO_discard _ _) k)) fun _=>?_
 refine kd (fun _ k=>nread_ok (by omega) h64 on (aft (okN_read on) (okO_read _ _ _) k)) fun _=>?_
 refine kd (fun _ k=>write7_ok (by omega) h64 on (aft (okN_write on h64) (okO_write _ _ _ _) k)) fun _=>?_
 refine kd (fun _ k=>connect_ok o k) fun _=>?_
 have he:∀ (a b:CO),e.kind≠7->e.kind≠8->(if e.kind=7∨e.kind=8 then a else b)=b:=fun a b h1 h2=>if_neg (by simp [h1,h2])
 by_cases h7:e.kind=7
 ·intro k
  rw [if_pos (Or.inl h7)] at k
  rw [if_pos h7] at k
  exact cond_t (beq_iff_eq.2 h7) (cond_t (beq_iff_eq.2 h7) (off_ok hN h64 (okC_want o i false) k))
 refine fun k=>cond_f (beq_eq_false_iff_ne.2 h7) ?_
 by_cases h8:e.kind=8
 ·rw [if_pos (Or.inr h8),if_neg h7] at k
  exact cond_t (beq_iff_eq.2 h8) (cond_f (beq_eq_false_iff_ne.2 h7) (off_ok hN h64 o k))
 rw [he _ _ h7 h8] at k
 refine cond_f (beq_eq_false_iff_ne.2 h8) ?_
 revert k
 refine kd (fun _ k=>p9 (nin_ok hN h64 o k)) fun _=>?_
 refine kd (fun _ k=>?_) fun _=>?_
 ·refine cond_ok (fun h=>?_) (fun h=>?_)
  ·rw [if_neg (nt (not_t h))] at k;exact k
  ·rw [if_pos (not_f h)] at k
   exact down_ok (aft ((okN_down on).up (by omega)) (okO_nil 3) k)
 refine kd (fun _ k=>attach_ok (by omega) h64 on (reply_ok k)) fun _=>?_
 refine kd (fun _ k=>?_) fun _=>?_
 ·have hw:IntKind.i64.wrap (minI e.num 1000)=min e.num 1000:=by
   have h0:(0:Int)≤e.num:=oe.n.1
   rw [min_eq]
   exact wrap_i64 ⟨by omega,by omega⟩
  have h0:(0:Int)≤e.num:=oe.n.1
  refine cond_ok (fun h=>?_) (fun h=>?_)
  ·rw [if_pos h] at k
   rw [hw]
   exact ref04_Arm_ok (aft ((okN_arm on (by omega) (by omega)).up (by omega)) (okO_nil 3) k)
  ·rw [if_neg (nt h)] at k
   exact aft (on.up (by omega)) (okO_nil 3) k
 refine kd (fun _ k=>?_) fun _=>?_
 ·have hd:=on.dl
  refine cond_ok (fun h=>?_) (fun h=>?_)
  ·have h:=of_decide_eq_true h
   rw [if_pos (by omega)] at k
   exact gd_ok (fit_ok (by omega)) (gd_ok (fit_ok (by simp;omega)) k)
  ·have h:=of_decide_eq_false h
   rw [if_neg (by omega),setN_same] at k
   exact k
 refine kd (fun _ k=>?_) fun _=>?_
 ·have hd:=oe.d
  refine ref13_Read_ok (by omega) (cond_ok (fun h=>?_) (fun h=>?_))
  ·rw [if_pos (eq_t h)] at k;exact k
  ·rw [if_neg (eq_f h)] at k
   exact receive_ok (by omega) h64 on (by omega) (aft (okN_receive on h64) (okO_receive _ _) k)
 exact fun k=>k
theorem Do_ok {c:Cluster} {e:Event} (o:OkC N c) (oe:OkE e) {K:CO->Prop} (k:K (doC c e)):q124.F c e K:=by
 unfold q124.F q124.FV
 revert k
 unfold doC
 refine kd (fun _ k=>?_) fun _=>kd (fun _ k=>?_) fun _ k=>k
 ·refine do_at hN h64 o oe ?_ k
  exact fun h=>cond_t (by decide) h
 ·refine do_at hN h64 o oe ?_ k
  exact fun h=>cond_f (by decide) (cond_t (by decide) h)
end
end Gm

set_option maxRecDepth 100000
namespace Gm
open Go
theorem okO_end {c:Cluster} {out:List Outp} {a:Nat} (h:out.length≤a):(endC c out).2.length≤a+6:=by
 have h1:∀ (c:CO) (i:Bool),(loseC c i).2.length≤c.2.length+3:=by
  intro c i
  unfold loseC
  split
  ·omega
  ·dsimp only
   have:=(okO_lose (nodeC c.1 i)).1
   rw [List.length_append]
   omega
 have e1:=h1 ({ c with link:=closeL c.link },out) false
 have e2:=h1 (loseC ({ c with link:=closeL c.link },out) false) true
 unfold endC
 dsimp only at e1
 omega
theorem okO_after {c:Cluster} {i:Bool} {r:NO} (h:OkO 3 r.2):(afterC c i r).2.length≤9:=by
 have:=List.length_filter_le (fun o:Outp=>!(o.kind==1)) r.2
 have h3:=h.1
 unfold afterC
 dsimp only
 generalize (if r.1.up=false then setW (putC (setN c i r.1) i r.2) i false else putC (setN c i r.1) i r.2)=c2
 split
 ·dsimp only;omega
 ·exact okO_end (a:=3) (by omega)
theorem okO_do {c:Cluster} {e:Event}:(doC c e).2.length≤18:=by
 have at_:∀ i,(doAt c e i).2.length≤18:=by
  intro i
  unfold doAt
  refine ite_of (P:=fun r:CO=>r.2.length≤18) (fun _=>?_) (fun _=>?_)
  ·exact Nat.le_trans (okO_after (okO_promote _ _)) (by decide)
  refine ite_of (P:=fun r:CO=>r.2.length≤18) (fun _=>?_) (fun _=>?_)
  ·exact Nat.le_trans (okO_after (okO_demote _ _)) (by decide)
  refine ite_of (P:=fun r:CO=>r.2.length≤18) (fun _=>?_) (fun _=>?_)
  ·exact Nat.le_trans (okO_after (okO_discard _ _)) (by decide)
  refine ite_of (P:=fun r:CO=>r.2.length≤18) (fun _=>?_) (fun _=>?_)
  ·exact Nat.le_trans (okO_after (okO_read _ _ _)) (by decide)
  refine ite_of (P:=fun r:CO=>r.2.length≤18) (fun _=>?_) (fun _=>?_)
  ·exact Nat.le_trans (okO_after (okO_write _ _ _ _)) (by decide)
  refine ite_of (P:=fun r:CO=>r.2.length≤18) (fun _=>?_) (fun _=>?_)
  ·unfold connectC
   split
   ·exact Nat.zero_le _
   dsimp only
   split
   ·exact Nat.zero_le _
   ·dsimp only
    rw [List.length_append]
    exact Nat.add_le_add (b:=9) (d:=9) (okO_after (okO_begin _ _)) (okO_after (okO_begin _ _))
  refine ite_of (P:=fun r:CO=>r.2.length≤18) (fun _=>?_) (fun _=>?_)
  ·generalize (if e.kind=7 then setW c i false else c)=c1
   split
   ·exact Nat.le_trans (okO_end (a:=0) (Nat.le_refl _)) (by decide)
   ·exact Nat.zero_le _
  refine ite_of (P:=fun r:CO=>r.2.length≤18) (fun _=>?_) (fun _=>?_)
  ·split
   ·exact Nat.zero_le _
   ·exact Nat.le_trans (okO_after (okO_receive _ _)) (by decide)
  refine ite_of (P:=fun r:CO=>r.2.length≤18) (fun _=>?_) (fun _=>?_)
  ·split
   ·exact Nat.le_trans (okO_after (okO_nil 3)) (by decide)
   ·exact Nat.zero_le _
  refine ite_of (P:=fun r:CO=>r.2.length≤18) (fun _=>?_) (fun _=>?_)
  ·exact(by decide:1≤18)
  refine ite_of (P:=fun r:CO=>r.2.length≤18) (fun _=>?_) (fun _=>?_)
  ·exact Nat.le_trans (okO_after (okO_nil 3)) (by decide)
  refine ite_of (P:=fun r:CO=>r.2.length≤18) (fun _=>?_) (fun _=>?_)
  ·exact Nat.zero_le _
  refine ite_of (P:=fun r:CO=>r.2.length≤18) (fun _=>?_) (fun _=>?_)
  ·split
   ·exact Nat.zero_le _
   ·exact Nat.le_trans (okO_after (okO_receive _ _)) (by decide)
  ·exact Nat.zero_le _
 unfold doC
 split
 ·exact at_ false
 split
 ·exact at_ true
 ·exact Nat.zero_le _
theorem play_app (c:Cluster):∀ (a b:List Event),playC c (a++b)=playC (playC c a) b
 | [],_=>rfl
 | e :: a,b=>play_app (doC c e).1 a b
theorem Play_ok {N:Nat} {c:Cluster} {l:List Event} (o:OkC N c) (h64:64≤N) (hl:N+30 * l.length≤5900) (he:∀ e∈l,OkE e) {K:CO->Prop} (k:∀ out,K (playC c l,out)):q125.F c l K:=by
 unfold q125.F q125.FV
 have hN:l.length≤200:=by omega
 refine loop_ok (I:=fun x:q125.L0=>∃ j:Nat,j≤l.length∧x.l=l∧x.i=(j:Int)∧x.m0=playC c (l.take j)∧x.out.length≤18 * j)
  (m:=fun x:q125.L0=>l.length - x.i.toNat) ?_ ⟨0,by omega,rfl,rfl,rfl,Nat.le_refl _⟩
 rintro ⟨l',out,i,m0,m1⟩ ⟨j,hj,h1,h2,h3,h4⟩ rec hrec
 dsimp only at h1 h2 h3 h4
 subst h1
 subst h2
 subst h3
 unfold q125.b0V
 dsimp only
 refine cond_ok (fun h=>?_) (fun h=>?_)
 ·have hlt:=lt_of_dec h
  have hw:IntKind.i64.wrap ((j:Int)+1)=((j+1:Nat):Int):=wrap_lt hlt (by unfold big;omega)
  have hm:l'.length - ((j+1:Nat):Int).toNat < l'.length - ((j:Nat):Int).toNat:=by omega
  have oj:OkC (N+30 * j) (playC c (l'.take j)):=by
   have:=okC_play (l:=l'.take j) o h64 (fun e h=>he e (List.mem_of_mem_take h))
   exact this.up (by rw [List.length_take];omega)
  have ho:=okO_do (c:=playC c (l'.take j)) (e:=l'[j])
  refine oget_ok (getI_ok hlt) (Do_ok (by omega) (by omega) oj (he _ (List.getElem_mem hlt)) ?_)
  refine gd_ok (out_ok (by omega)) ?_
  rw [hw]
  refine hrec _ ⟨j+1,hlt,rfl,rfl,?_,?_⟩ hm
  ·rw [take_succ hlt,play_app]
   rfl
  ·dsimp only
   rw [List.length_append]
   omega
 ·have e:=le_of_dec h hj
  subst e
  rw [List.take_length]
  exact k _
theorem okN_raw {N:Nat} {i:Int} {d:Disk} (o:OkD N d):OkN N ⟨i,false,⟨d,zS,0⟩,false,0,0,zeroH,false,zR,false,0,0,false,[],[]⟩:=
 ⟨⟨o,i64_0,wZV,inK_u32 (by decide)⟩,u64_0,wZH,Nat.zero_le _,Nat.zero_le _,fun g h=>(by cases h),Nat.zero_le _,i64_0⟩
theorem fmt_okD {b:Int} {g:Nat}:OkD 64 (fmtV b g).1:=by
 unfold fmtV
 split
 ·rename_i h
  refine bare_okD ?_ ?_
  ·unfold fmtS
   simp only [List.length_cons,List.length_replicate]
   omega
  ·intro x hx
   unfold fmtS at hx
   rcases List.mem_cons.1 hx with rfl | hx
   ·rw [sealV_length,sB_length];decide
   rcases List.mem_cons.1 hx with rfl | hx
   ·rw [sealV_length,be_length];decide
   ·rw [(List.mem_replicate.1 hx).2];decide
 ·exact bare_okD (s:=[]) (by decide) (fun x h=>by cases h)
theorem New_ok {b:Int} {g:Nat} (hg:g < 18446744073709551616) {K:(Cluster×Int)->Prop} (k:K (newC b g)):q45.F b g K:=by
 unfold q45.F q45.FV
 unfold newC at k
 by_cases h:(fmtV b g).2≠0
 ·rw [if_pos h] at k
  refine⟨1,round1 ?_⟩
  refine cond_t rfl (ref09_Format_ok hg (cond_t (by simpa using h) k))
 ·rw [if_neg h] at k
  have h:((fmtV b g).2 != 0)=false:=by simpa using h
  refine⟨3,round1 ?_⟩
  refine cond_t rfl (ref09_Format_ok hg (cond_f h ?_))
  refine attach_ok (N:=64) (by omega) (by omega) (okN_raw fmt_okD) ?_
  refine cond_t rfl (round1 ?_)
  refine cond_t rfl (ref09_Format_ok hg (cond_f h ?_))
  refine attach_ok (N:=64) (by omega) (by omega) (okN_raw fmt_okD) ?_
  refine cond_f rfl (cond_t rfl (round1 ?_))
  refine cond_f rfl ?_
  exact k
theorem okC_new {b:Int} {g:Nat}:OkC 64 (newC b g).1:=by
 have hz:OkN 64 zN:=okN_raw (d:=noD) (bare_okD (s:=[]) (by decide) (fun x h=>by cases h))
 have hl:OkL 64 zL:=⟨u64_0,Nat.zero_le _,Nat.zero_le _,fun x h=>(by cases h),fun x h=>(by cases h)⟩
 unfold newC
 split
 ·exact⟨hz,hz,hl⟩
 ·exact⟨okN_attach (okN_raw fmt_okD),okN_attach (okN_raw fmt_okD),hl⟩
theorem okC_reach {b:Int} {l:List Event} (he:∀ e∈l,OkE e):OkC (64+30 * l.length) (reachC b l):=okC_play okC_new (by omega) he
theorem Reach_ok {b:Int} {l:List Event} (h0:0≤b) (hl:l.length≤100) (he:∀ e∈l,OkE e) {K:Cluster->Prop} (k:K (reachC b l)):q126.F b l K:=by
 unfold q126.F q126.FV
 have e:IntKind.i64.wrap (1+IntKind.i64.wrap (b.tmod 4))=1+b % 4:=by
  rw [Int.tmod_eq_emod_of_nonneg h0,wrap_i64 (x:=b % 4) (by omega),wrap_i64 (by omega)]
 refine cond_f rfl ?_
 show q45.F _ 7 _
 rw [e]
 refine New_ok (g:=7) (by decide) ?_
 exact Play_ok okC_new (by omega) (by omega) he (fun out=>k)
end Gm

set_option maxRecDepth 100000
namespace Gm
open Go
theorem nodeDown_ok {n:Node} {K:Node->Prop} (k:K (downN n)):q180.F n K:=k
theorem eq0 {a:Int} (h:a=0):(a==0)=true:=beq_iff_eq.2 h
theorem ne0 {a:Int} (h:a≠0):(a==0)=false:=beq_eq_false_iff_ne.2 h
section
variable {N:Nat} {n:Node} (hN:N≤7000) (h64:64≤N) (o:OkN N n)
include hN h64 o
theorem laidP_ok {b:Int} {data:Str} {X:Store×Int->Node->Prop} {B:Node->Prop} {Y:Store×Int->Node->Prop} {G Z1 Z2:Store×Int->Prop}
  (h1:layN n b data=(downN (setSt n (stMark n.store b).1),false)->B (downN (setSt n (stMark n.store b).1)))
  (h2:layN n b data=(downN (setSt n (stPut (stMark n.store b).1 b data).1),false)->B (downN (setSt n (stPut (stMark n.store b).1 b data).1)))
  (h3:(stPut (stMark n.store b).1 b data).2=0->layN n b data=(setSt n (stPut (stMark n.store b).1 b data).1,true)->G (stPut (stMark n.store b).1 b data)) :
  q193.F n.store b fun r3=>bif r3.2 != 0 then q180.F (setSt n r3.1) (fun r4=>bif r3.2==0 then X r3 r4 else B r4)
   else bif r3.2==0 then(q196.F r3.1 b data fun r7=>bif r7.2 != 0 then q180.F (setSt n r7.1) (fun r8=>bif r7.2==0 then Y r7 r8 else B r8)else bif r7.2==0 then G r7 else Z1 r7)else Z2 r3:=by
 unfold layN keepN at h1 h2 h3
 dsimp only at h1 h2 h3
 have os:=okS_mark (i:=b) o.st h64
 refine storeMark_ok (by omega) h64 o.st (cond_ok (fun h=>?_) (fun h=>?_))
 ·have h:=ne_t h
  refine nodeDown_ok (cond_f (ne0 h) ?_)
  refine h1 ?_
  rw [if_neg h]
  rfl
 ·have h:=ne_f h
  rw [if_pos h] at h2 h3
  refine cond_t (eq0 h) (storePut_ok (N:=N+1) (by omega) (by omega) os (cond_ok (fun h5=>?_) (fun h5=>?_)))
  ·have h5:=ne_t h5
   refine nodeDown_ok (cond_f (ne0 h5) ?_)
   refine h2 ?_
   rw [if_pos rfl]
   show(if (stPut (stMark n.store b).1 b data).2=0 then _ else _)=_
   rw [if_neg h5]
   rfl
  ·have h5:=ne_f h5
   refine cond_t (eq0 h5) (h3 h5 ?_)
   rw [if_pos rfl]
   show(if (stPut (stMark n.store b).1 b data).2=0 then _ else _)=_
   rw [if_pos h5]
   rfl
end
end Gm

set_option maxRecDepth 100000
namespace Gm
open Go
theorem out1 {o:Outp}:decide (([o]:List Outp).length * 48≤room)=true:=out_ok (by simp)
section
variable {N:Nat} {n:Node} (hN:N≤6900) (h64:64≤N) (o:OkN N n)
include hN h64 o
theorem Apply_ok {b:Int} {data:Str} {K:NO->Prop} (k:K (applyN n b data)):q197.F n b data K:=by
 unfold q197.F q197.FV
 unfold applyN at k
 refine laidP_ok (by omega) h64 o (fun hl=>?_) (fun hl=>?_) (fun _ hl=>?_)
 ·rw [hl,if_neg (by simp)] at k;exact k
 ·rw [hl,if_neg (by simp)] at k;exact k
 ·rw [hl,if_pos rfl] at k
  refine packet_Encode_ok (by exact wZH) (by exact o.se) (gd_ok out1 ?_)
  exact k
theorem Acked_ok {b:Int} {K:NO->Prop} (k:K (ackedN n b)):q200.F n b K:=by
 unfold q200.F q200.FV
 unfold ackedN wipeN keepN at k
 refine cond_ok (fun h1=>?_) (fun h1=>?_)
 ·rw [if_pos (.inl (not_t h1))] at k;exact k
 refine cond_ok (fun h2=>?_) (fun h2=>?_)
 ·rw [if_pos (.inr (ne_t h2))] at k;exact k
 rw [if_neg (fun h=>h.elim (nf (not_f h1)) (fun e=>e (ne_f h2)))] at k
 dsimp only at k
 refine gd_ok out1 (storeWipe_ok (by omega) h64 o.st (cond_ok (fun h=>?_) (fun h=>?_)))
 ·have h:=ne_t h
  rw [if_neg h] at k
  exact nodeDown_ok (cond_f (ne0 h) k)
 ·have h:=ne_f h
  rw [if_pos h] at k
  refine cond_t (eq0 h) (packet_Encode_ok (by exact wZH) (by exact o.se) (gd_ok (out_ok (by simp)) ?_))
  exact k
end
end Gm

set_option maxRecDepth 100000
namespace Gm
open Go
theorem Great_ok {l:List Event} {most:Nat} (hm:most≤1000) {K:Bool->Prop} (kt:K true) (kf:l.length≤most->(∀ e∈l,e.data.length≤300∧e.keeps.length≤100)->K false):q214.F l most K:=by
 unfold q214.F
 refine cond_ok (fun h=>kt) (fun h=>?_)
 have h:=of_decide_eq_false h
 have hl:l.length≤most:=by omega
 refine loop_ok (I:=fun x:q214.L0=>∃ j:Nat,j≤l.length∧x=⟨l,j⟩∧∀ e∈l.take j,e.data.length≤300∧e.keeps.length≤100)
  (m:=fun x:q214.L0=>l.length - x.i.toNat) ?_ ⟨0,by omega,rfl,fun e h=>(by cases h)⟩
 rintro _ ⟨j,hj,rfl,he⟩ rec hrec
 unfold q214.b0
 dsimp only
 refine cond_ok (fun h1=>?_) (fun h1=>?_)
 ·have hlt:=lt_of_dec h1
  have hw:IntKind.i64.wrap ((j:Int)+1)=((j+1:Nat):Int):=wrap_lt hlt (by unfold big;omega)
  refine oget_ok (getI_ok hlt) (cond_ok (fun h2=>kt) (fun h2=>?_))
  refine oget_ok (getI_ok hlt) (cond_ok (fun h3=>kt) (fun h3=>?_))
  have h2:=of_decide_eq_false h2
  have h3:=of_decide_eq_false h3
  rw [hw]
  refine hrec _ ⟨j+1,hlt,rfl,fun e hm=>?_⟩ (by dsimp only;omega)
  rw [take_succ hlt] at hm
  rcases List.mem_append.1 hm with hm | hm
  ·exact he e hm
  ·rw [List.mem_singleton.1 hm]
   omega
 ·have e:=le_of_dec h1 hj
  subst e
  rw [List.take_length] at he
  exact kf hl he
theorem okE_lit {k i a b n:Int} (h:inK .u64 n):OkE ⟨k,i,a,b,[],n,[]⟩:=⟨h,Nat.zero_le _,Nat.zero_le _⟩
def zO:Outp:=⟨0,0,0,0,[]⟩
def h0 (l:List Outp):Outp:=(getI l 0).getD zO
end Gm

set_option maxRecDepth 100000
namespace Gm
open Go
theorem inK_pos {x:Int} (h:inK .u8 x):0≤x:=h.1
theorem okE_of {e:Event} (hn:inK .u64 e.num) (h:e.data.length≤300∧e.keeps.length≤100):OkE e:=⟨hn,h.1,h.2⟩
end Gm

set_option maxRecDepth 100000
namespace Gm
open Go
def Val (d:Disk) (x:Nat) (P:Str->Prop):Prop:=(∀ y,d.sure[x]? = some y->P y)∧∀ w∈d.cache,w.sector=(x:Int)->P w.data
theorem Val.imp {d:Disk} {x:Nat} {P Q:Str->Prop} (h:Val d x P) (f:∀ y,P y->Q y):Val d x Q:=⟨fun y e=>f y (h.1 y e),fun w m e=>f _ (h.2 w m e)⟩
def Sec (d:Disk):Prop:=∀ w∈d.cache,0≤w.sector∧w.sector < (d.sure.length:Int)
def SGood (B:Int) (x:Nat) (data:Str):Prop:=
 (x=0->∃ s:Super,data=sealV (sBytes s)∧s.blocks=B∧supR s=true∧wSup s)∧(x=1->∃ m:Nat,data=sealV (be m 4)∧maskR m B=true)∧(2≤x->data.length=8)
structure DW (B:Int) (d:Disk):Prop where
 len:(d.sure.length:Int)=B+2
 one:1≤B∧B≤32
 sec:Sec d
 val:∀ x,Val d x (SGood B x)
end Gm

set_option maxRecDepth 100000
namespace Gm
open Go
def MOk (m:Nat) (data:Str):Prop:=∃ m':Nat,data=sealV (be m' 4)∧m' < 2 ^ 32∧∀ k,m.testBit k=true->m'.testBit k=true
structure UpS (B:Int) (s:Store):Prop where
 dw:DW B s.disk
 dead:s.disk.dead=false
 bl:s.sup.blocks=B
 one:∀ w∈s.disk.cache,w.sector=1
 mv:Val s.disk 1 (MOk s.mask.toNat)
 sb:Val s.disk 0 (fun y=>y=sealV (sBytes s.sup))
 mb:maskR s.mask.toNat B=true
theorem DW.two {B:Int} {d:Disk} (h:DW B d):(d.sure.length:Int) - 2=B:=by have:=h.len;omega
end Gm

set_option maxRecDepth 100000
namespace Gm
open Go
def NW (B:Int) (n:Node):Prop:=DW B n.store.disk∧(n.up=true->UpS B n.store)
section
variable {B:Int} {N:Nat} {n:Node} (o:OkN N n) (h:UpS B n.store)
include o h
end
section
variable {B:Int} {N:Nat} {n:Node} (h64:64≤N) (o:OkN N n) (h:UpS B n.store)
include h64 o h
end
end Gm

set_option maxRecDepth 100000
namespace Gm
open Go
def CW (B:Int) (c:Cluster):Prop:=NW B c.n0∧NW B c.n1
theorem CW.node {B:Int} {c:Cluster} (h:CW B c) (i:Bool):NW B (nodeC c i):=by cases i;exact h.1;exact h.2
end Gm

set_option maxRecDepth 100000
namespace Gm
open Go
structure NI (B:Int) (n:Node):Prop where
 dn:n.up=false->n.state=0
 w0:¬ (n.state=4∧n.store.sup.inc=true)->n.wanted=0
 w4:n.state=4->n.store.sup.inc=true->1≤n.wanted∧n.wanted≤B
theorem save_sup (s:Store) (m:Int):(stSave s m).1.sup=s.sup:=by unfold stSave;split <;> rfl
theorem NI.same {B:Int} {n m:Node} (h:NI B n) (h1:m.up=n.up) (h2:m.state=n.state) (h3:m.store.sup.inc=n.store.sup.inc) (h4:m.wanted=n.wanted):NI B m:=
 ⟨fun e=>h2.trans (h.dn (h1.symm.trans e)),fun c=>h4.trans (h.w0 (fun c2=>c ⟨h2.trans c2.1,h3.trans c2.2⟩)),fun c1 c2=>by rw [h4];exact h.w4 (h2.symm.trans c1) (h3.symm.trans c2)⟩
section
variable {B:Int} {n:Node} (h:NI B n)
include h
end
end Gm

set_option maxRecDepth 100000
namespace Gm
open Go
end Gm

set_option maxRecDepth 100000
namespace Gm
open Go
section
variable {B:Int} {n:Node} (hu:n.up=true) (h:NI B n)
include hu h
end
end Gm

set_option maxRecDepth 100000
namespace Gm
open Go
end Gm

set_option maxRecDepth 100000
namespace Gm
open Go
structure CI (B:Int) (c:Cluster):Prop where
 a:NI B c.n0
 b:NI B c.n1
 dl:c.link.up=false->c.n0.state=0∧c.n1.state=0
theorem CI.node {B:Int} {c:Cluster} (h:CI B c) (i:Bool):NI B (nodeC c i):=by cases i;exact h.a;exact h.b
theorem CI.zero {B:Int} {c:Cluster} (h:CI B c) (i:Bool) (e:c.link.up=false):(nodeC c i).state=0:=by cases i;exact(h.dl e).1;exact(h.dl e).2
end Gm

set_option maxRecDepth 100000
namespace Gm
open Go
section
variable {n:Node} (s:n.state=0)
include s
end
end Gm

set_option maxRecDepth 100000
namespace Gm
open Go
end Gm

set_option maxRecDepth 100000
namespace Gm
open Go
end Gm

set_option maxRecDepth 100000
namespace Gm
open Go
theorem id_keep {n:Node} {r:Store×Int}:(keepN n r).1.id=n.id:=by unfold keepN;split <;> rfl
theorem id_promote {n:Node} {x:Int}:(promoteN n x).1.id=n.id:=by
 unfold promoteN
 repeat' split
 all_goals first
  | rfl
  | exact id_keep
theorem id_demote {n:Node} {x:Int}:(demoteN n x).1.id=n.id:=by
 unfold demoteN
 repeat' split
 all_goals first
  | rfl
  | exact id_keep
theorem id_discard {n:Node} {x:Int}:(discardN n x).1.id=n.id:=by
 unfold discardN
 repeat' split
 all_goals first
  | rfl
  | exact id_keep
theorem id_readN {n:Node} {x b:Int}:(readN n x b).1.id=n.id:=by
 unfold readN
 repeat' split
 all_goals rfl
theorem id_mint {n:Node}:(mintN n).1.id=n.id:=by
 unfold mintN
 split
 ·rfl
 split
 ·rfl
 ·dsimp only
  split
  ·exact id_keep
  ·exact id_keep
theorem id_lay {n:Node} {b:Int} {data:Str}:(layN n b data).1.id=n.id:=by
 unfold layN
 dsimp only
 split
 ·exact id_keep.trans id_keep
 ·exact id_keep
theorem id_wrote {n:Node} {x b:Int} {data:Str}:(wroteN n x b data).1.id=n.id:=by
 unfold wroteN
 repeat' split
 all_goals exact id_lay
theorem id_write {n:Node} {x b:Int} {data:Str}:(writeN n x b data).1.id=n.id:=by
 have hm:(if n.state=0∧n.minted=false then mintN n else(n,0)).1.id=n.id:=by
  split
  ·exact id_mint
  ·rfl
 rw [write_of]
 generalize (if n.state=0∧n.minted=false then mintN n else(n,0))=q at hm ⊢
 repeat' split
 all_goals first
  | rfl
  | exact hm
  | exact id_wrote.trans hm
theorem id_wipe {n:Node} {b:Int}:(wipeN n b).1.id=n.id:=id_keep
theorem id_acked {n:Node} {b:Int}:(ackedN n b).1.id=n.id:=by
 unfold ackedN
 split
 ·rfl
 ·dsimp only
  split
  ·exact id_wipe
  ·exact id_wipe
theorem id_apply {n:Node} {b:Int} {data:Str}:(applyN n b data).1.id=n.id:=by
 unfold applyN
 split
 ·exact id_lay
 ·exact id_lay
theorem id_lose {n:Node}:(loseN n).1.id=n.id:=by
 unfold loseN
 split
 ·rfl
 ·dsimp only
  split
  ·rfl
  ·split
   ·exact id_mint
   ·exact id_mint
theorem id_seek {n:Node}:(seekN n).1.id=n.id:=by
 unfold seekN
 split
 ·rfl
 split
 ·rfl
 ·dsimp only
  split
  ·exact id_keep
  ·exact id_keep
theorem id_got {n:Node} {b:Int} {data:Str}:(gotN n b data).1.id=n.id:=by
 unfold gotN
 split
 ·rfl
 dsimp only
 split
 ·exact id_keep
 split
 ·exact id_wipe.trans id_keep
 ·exact id_seek.trans (id_wipe.trans id_keep)
theorem id_copied {n:Node} {b:Int}:(copiedN n b).1.id=n.id:=by
 unfold copiedN
 split
 ·rfl
 ·exact id_wipe
theorem id_ended {n:Node}:(endedN n).1.id=n.id:=by
 unfold endedN
 dsimp only
 split
 ·exact id_keep
 ·exact id_keep
theorem id_met {n:Node} {h:Hello}:(metN n h).1.id=n.id:=by
 unfold metN
 dsimp only
 split
 ·rfl
 split
 ·split
  ·exact id_keep
  ·exact id_keep
 split
 ·exact id_keep
 split
 ·exact id_keep
 split
 ·exact id_keep.trans id_keep
 ·exact id_seek.trans (id_keep.trans id_keep)
theorem id_roles {n:Node} {k:Int}:(rolesN n k).1.id=n.id:=by
 unfold rolesN
 split
 ·split <;> rfl
 split
 ·rfl
 split
 ·rfl
 ·dsimp only
  split
  ·exact id_keep
  ·exact id_keep
theorem id_take {n:Node} {p:Packet}:(takeN n p).1.id=n.id:=by
 unfold takeN
 split
 ·exact id_met
 split
 ·exact id_apply
 split
 ·exact id_acked
 split
 ·exact id_wipe
 split
 ·rfl
 split
 ·exact id_got
 split
 ·exact id_copied
 split
 ·exact id_ended
 split
 ·rfl
 ·exact id_roles
theorem id_receive {n:Node} {b:Str}:(receiveN n b).1.id=n.id:=by
 unfold receiveN
 split
 ·rfl
 split
 ·rfl
 split
 ·rfl
 ·exact id_take
theorem id_attach {n:Node} {keeps:List Bool}:(attachN n keeps).1.id=n.id:=by
 unfold attachN
 repeat' split
 all_goals rfl
def IdC (c:Cluster):Prop:=c.n0.id=0∧c.n1.id=1
theorem IdC.node {c:Cluster} (h:IdC c) (i:Bool):(nodeC c i).id=bI i:=by cases i;exact h.1;exact h.2
theorem idc_set {c:Cluster} {n:Node} (h:IdC c) (i:Bool) (hn:n.id=(nodeC c i).id):IdC (setN c i n):=by
 cases i
 ·exact⟨hn.trans h.1,h.2⟩
 ·exact⟨h.1,hn.trans h.2⟩
theorem idc_want {c:Cluster} (h:IdC c) (i w:Bool):IdC (setW c i w):=by cases i <;> exact h
theorem idc_put {c:Cluster} {l:List Outp} (h:IdC c) (i:Bool):IdC (putC c i l):=by
 unfold putC
 split <;> exact h
theorem idc_lose {c:CO} (h:IdC c.1) (i:Bool):IdC (loseC c i).1:=by
 unfold loseC
 split
 ·exact h
 ·dsimp only
  have h1:=idc_set h i (id_lose (n:=nodeC c.1 i))
  split
  ·exact idc_want h1 _ _
  ·exact h1
theorem idc_end {c:Cluster} {out:List Outp} (h:IdC c):IdC (endC c out).1:=
 idc_lose (c:=loseC ({ c with link:=closeL c.link },out) false) (idc_lose (c:=({ c with link:=closeL c.link },out)) h false) true
theorem idc_after {c:Cluster} {r:NO} (h:IdC c) (i:Bool) (hn:r.1.id=(nodeC c i).id):IdC (afterC c i r).1:=by
 have h1:IdC (putC (setN c i r.1) i r.2):=idc_put (idc_set h i hn) i
 unfold afterC
 dsimp only
 have h2:IdC (if r.1.up=false then setW (putC (setN c i r.1) i r.2) i false else putC (setN c i r.1) i r.2):=by
  split
  ·exact idc_want h1 _ _
  ·exact h1
 generalize (if r.1.up=false then setW (putC (setN c i r.1) i r.2) i false else putC (setN c i r.1) i r.2)=c2 at h2 ⊢
 split
 ·exact h2
 ·refine idc_end ?_
  split
  ·exact h2
  ·exact h2
theorem idc_connect {c:Cluster} (h:IdC c) (i:Bool):IdC (connectC c i).1:=by
 unfold connectC
 split
 ·exact h
 dsimp only
 split
 ·exact idc_want h _ _
 have h2:IdC { setW c i true with link:=openL (setW c i true).link }:=idc_want h i true
 have ha:=idc_after (r:=beginN (setW c i true).n0 (openL (setW c i true).link).session) h2 false rfl
 exact idc_after ha true rfl
theorem idc_at {c:Cluster} {e:Event} (h:IdC c) (i:Bool):IdC (doAt c e i).1:=by
 unfold doAt
 refine ite_of (P:=fun r:CO=>IdC r.1) (fun _=>?_) (fun _=>?_)
 ·exact idc_after h i id_promote
 refine ite_of (P:=fun r:CO=>IdC r.1) (fun _=>?_) (fun _=>?_)
 ·exact idc_after h i id_demote
 refine ite_of (P:=fun r:CO=>IdC r.1) (fun _=>?_) (fun _=>?_)
 ·exact idc_after h i id_discard
 refine ite_of (P:=fun r:CO=>IdC r.1) (fun _=>?_) (fun _=>?_)
 ·exact idc_after h i id_readN
 refine ite_of (P:=fun r:CO=>IdC r.1) (fun _=>?_) (fun _=>?_)
 ·exact idc_after h i id_write
 refine ite_of (P:=fun r:CO=>IdC r.1) (fun _=>?_) (fun _=>?_)
 ·exact idc_connect h i
 refine ite_of (P:=fun r:CO=>IdC r.1) (fun _=>?_) (fun _=>?_)
 ·have h1:IdC (if e.kind=7 then setW c i false else c):=by
   split
   ·exact idc_want h _ _
   ·exact h
  generalize (if e.kind=7 then setW c i false else c)=c1 at h1 ⊢
  split
  ·exact idc_end h1
  ·exact h1
 refine ite_of (P:=fun r:CO=>IdC r.1) (fun _=>?_) (fun _=>?_)
 ·split
  ·exact h
  ·rename_i b r hq
   exact idc_after (c:={ c with link:=setTo c.link i r }) h i (by cases i <;> exact id_receive)
 refine ite_of (P:=fun r:CO=>IdC r.1) (fun _=>?_) (fun _=>?_)
 ·split
  ·exact idc_after h i rfl
  ·exact h
 refine ite_of (P:=fun r:CO=>IdC r.1) (fun _=>?_) (fun _=>?_)
 ·exact idc_set h i id_attach
 refine ite_of (P:=fun r:CO=>IdC r.1) (fun _=>?_) (fun _=>?_)
 ·split
  ·exact idc_after h i rfl
  ·exact idc_after h i rfl
 refine ite_of (P:=fun r:CO=>IdC r.1) (fun _=>?_) (fun _=>?_)
 ·refine idc_set h i ?_
  split <;> rfl
 refine ite_of (P:=fun r:CO=>IdC r.1) (fun _=>?_) (fun _=>?_)
 ·split
  ·exact h
  ·exact idc_after h i id_receive
 ·exact h
theorem idc_play:∀ {l:List Event} {c:Cluster},IdC c->IdC (playC c l)
 | [],_,h=>h
 | e :: l,c,h=>idc_play (l:=l) (by
  unfold doC
  split
  ·exact idc_at h false
  split
  ·exact idc_at h true
  ·exact h)
theorem idc_reach {b:Int} {l:List Event}:IdC (reachC b l):=by
 refine idc_play ?_
 have h:(newC (1+b % 4) 7).1.n0.id=0∧(newC (1+b % 4) 7).1.n1.id=1:=by
  unfold newC
  rw [if_neg ?_]
  ·exact⟨id_attach,id_attach⟩
  ·unfold fmtV
   rw [if_pos (show 1≤1+b % 4∧1+b % 4≤32∧(7:Nat)≠0 from ⟨by omega,by omega,by decide⟩)]
   simp
 exact h
end Gm

set_option maxRecDepth 100000
namespace Gm
open Go
structure PI (n:Node):Prop where
 p1:n.primary=true->n.store.sup.inc=false
 p2:n.asking=true->n.state=2∨n.state=3
 p3:n.state=2∨n.state=3->n.store.sup.inc=false
theorem PI.same {n m:Node} (h:PI n) (h1:m.primary=n.primary) (h2:m.asking=n.asking) (h3:m.state=n.state) (h4:m.store.sup.inc=n.store.sup.inc):PI m:=
 ⟨fun e=>h4.trans (h.p1 (h1.symm.trans e)),fun e=>by rw [h3];exact h.p2 (h2.symm.trans e),fun e=>h4.trans (h.p3 (by rw [← h3];exact e))⟩
section
variable {n:Node} (h:PI n)
include h
end
theorem join_sup (s:Store) (m:Int):(stJoin s m).1.sup=s.sup:=save_sup s _
end Gm

set_option maxRecDepth 100000
namespace Gm
open Go
def PC (c:Cluster):Prop:=PI c.n0∧PI c.n1
theorem PC.node {c:Cluster} (h:PC c) (i:Bool):PI (nodeC c i):=by cases i;exact h.1;exact h.2
theorem IdC.two {c:Cluster} (h:IdC c) (i:Bool):(nodeC c i).id=0∨(nodeC c i).id=1:=by cases i;exact .inl h.1;exact .inr h.2
end Gm

set_option maxRecDepth 100000
namespace Gm
open Go
end Gm

set_option maxRecDepth 100000
namespace Gm
open Go
theorem diskSame_ok {d:Disk} (h1:d.sure.length≤1000000) (h2:d.cache.length≤1000000) {K:Bool->Prop} (k:K true):q217.F d d K:=by
 unfold q217.F
 refine cond_f (by simp) (cond_f (by simp) (cond_f (by simp) (cond_f (by simp) ?_)))
 refine loop_ok (I:=fun x:q217.L0=>∃ j:Nat,j≤d.sure.length∧x=⟨j,d,d⟩) (m:=fun x:q217.L0=>d.sure.length - x.i.toNat) ?_ ⟨0,by omega,rfl⟩
 rintro _ ⟨j,hj,rfl⟩ rec hrec
 unfold q217.b0
 dsimp only
 refine cond_ok (fun h=>?_) (fun _=>?_)
 ·have hlt:=lt_of_dec h
  rw [wrap_lt hlt (by unfold big;omega)]
  exact oget_ok (getI_ok hlt) (oget_ok (getI_ok hlt) (cond_f (by simp) (hrec _ ⟨j+1,hlt,rfl⟩ (by dsimp only;omega))))
 ·refine loop_ok (I:=fun x:q217.L2=>∃ j:Nat,j≤d.cache.length∧x=⟨j,d,d⟩) (m:=fun x:q217.L2=>d.cache.length - x.i.toNat) ?_ ⟨0,by omega,rfl⟩
  rintro _ ⟨j,hj,rfl⟩ rec hrec
  unfold q217.b2
  dsimp only
  refine cond_ok (fun h=>?_) (fun _=>k)
  have hlt:=lt_of_dec h
  rw [wrap_lt hlt (by unfold big;omega)]
  exact oget_ok (getI_ok hlt) (oget_ok (getI_ok hlt) (cond_f (by simp) (hrec _ ⟨j+1,hlt,rfl⟩ (by dsimp only;omega))))
theorem storeSame_ok {s:Store} (h1:s.disk.sure.length≤1000000) (h2:s.disk.cache.length≤1000000) {K:Bool->Prop} (k:K true):q218.F s s K:=by
 unfold q218.F q218.FV
 refine diskSame_ok h1 h2 (cond_t rfl (cond_t (by simp) ?_))
 rw [beq_self_eq_true]
 exact k
theorem drawsSame_ok {l:List Int} (h:l.length≤1000000) {K:Bool->Prop} (k:K true):q219.F l l K:=by
 unfold q219.F
 refine cond_f (by simp) ?_
 refine loop_ok (I:=fun x:q219.L0=>∃ j:Nat,j≤l.length∧x=⟨l,l,j⟩) (m:=fun x:q219.L0=>l.length - x.i.toNat) ?_ ⟨0,by omega,rfl⟩
 rintro _ ⟨j,hj,rfl⟩ rec hrec
 unfold q219.b0
 dsimp only
 refine cond_ok (fun h=>?_) (fun _=>k)
 have hlt:=lt_of_dec h
 rw [wrap_lt hlt (by unfold big;omega)]
 exact oget_ok (getI_ok hlt) (oget_ok (getI_ok hlt) (cond_f (by simp) (hrec _ ⟨j+1,hlt,rfl⟩ (by dsimp only;omega))))
theorem mintsSame_ok {l:List Mint} (h:l.length≤1000000) {K:Bool->Prop} (k:K true):q220.F l l K:=by
 unfold q220.F
 refine cond_f (by simp) ?_
 refine loop_ok (I:=fun x:q220.L0=>∃ j:Nat,j≤l.length∧x=⟨l,l,j⟩) (m:=fun x:q220.L0=>l.length - x.i.toNat) ?_ ⟨0,by omega,rfl⟩
 rintro _ ⟨j,hj,rfl⟩ rec hrec
 unfold q220.b0
 dsimp only
 refine cond_ok (fun h=>?_) (fun _=>k)
 have hlt:=lt_of_dec h
 rw [wrap_lt hlt (by unfold big;omega)]
 exact oget_ok (getI_ok hlt) (oget_ok (getI_ok hlt) (cond_f (by simp) (hrec _ ⟨j+1,hlt,rfl⟩ (by dsimp only;omega))))
theorem nodeSame_ok {N:Nat} {n:Node} (hN:N≤1000000) (o:OkN N n) {K:Bool->Prop} (k:K true):q221.F n n K:=by
 unfold q221.F q221.FV
 have h1:=o.st.d.s
 have h2:=o.st.d.c
 have h3:=o.dl
 have h4:=o.ml
 refine storeSame_ok (by omega) (by omega) (cond_f rfl (drawsSame_ok (by omega) (cond_f rfl (mintsSame_ok (by omega) (cond_f rfl ?_)))))
 refine cond_t (by simp) (cond_t (by simp) (cond_t (by simp) (cond_t (by simp) (cond_t (by simp) (cond_t (by simp) (cond_t (by simp) (cond_t (by simp) (cond_t (by simp) (cond_t (by simp) (cond_t (by simp) ?_))))))))))
 rw [beq_self_eq_true]
 exact k
theorem ctz_bits {m:Nat} (h0:m≠0) (h:m < 2 ^ 32):Lib.ctz 32 m < 32∧m.testBit (Lib.ctz 32 m)=true∧∀ j,j < Lib.ctz 32 m->m.testBit j=false:=by
 have e:Lib.ctz 32 m=Lib.ctzFrom 32 m:=by unfold Lib.ctz;rw [if_neg h0]
 obtain ⟨q,h1,h2⟩:=Lib.ctzFrom_spec 32 m (by omega) h
 rw [e]
 generalize Lib.ctzFrom 32 m=c at h1 h2 ⊢
 subst h1
 refine⟨h2,?_,fun j hj=>?_⟩
 ·rw [Nat.mul_comm,Nat.testBit_mul_two_pow]
  simp [Nat.testBit_zero]
 ·rw [Nat.mul_comm,Nat.testBit_mul_two_pow]
  simp only [show ¬ (c≤j) by omega,decide_false,Bool.false_and]
theorem Next_ok {m:Int} (hm:inK .u32 m) {K:(Int×Bool)->Prop} (k:K (nextM m)):q187.F m 0 K:=by
 obtain ⟨h1,h2⟩:=u32_toNat hm
 have e:ishl .u32 (ishr .u32 m (maxI2 0 0)) (maxI2 0 0)=m:=by
  have hr:ishr .u32 m (maxI2 0 0)=m:=by
   show m.fdiv (2 ^ 0)=m
   simp
  rw [hr]
  show IntKind.u32.wrap (m * 2 ^ 0)=m
  rw [wrap_u32]
  have:(0:Int)≤m∧m≤4294967295:=hm
  omega
 unfold q187.F q187.FV
 rw [e]
 refine cond_f (by decide) (cond_t (by decide) (cond_t (by decide) (cond_ok (fun h=>?_) (fun h=>?_))))
 ·have h:m=0:=eq_t h
  subst h
  exact use_eq k (next_none (fun j _=>by simp))
 ·have h:=eq_f h
  obtain ⟨c1,c2,c3⟩:=ctz_bits (m:=m.toNat) (by omega) (by simpa using h1)
  unfold math_bits_TrailingZeros32.F
  have h0:0≤m:=hm.1
  refine cond_t (by simp;omega) ?_
  exact use_eq k (next_at c1 c2 c3)
end Gm

set_option maxRecDepth 100000
namespace Gm
open Go
theorem Retire_ok {v:Vec} {K:Vec->Prop} (k:K (retire v)):q163.F v K:=by
 unfold q163.F
 unfold retire at k
 refine cond_ok (fun h=>?_) (fun h=>?_)
 ·rw [if_neg (ne_t h)] at k;exact k
 ·rw [if_pos (ne_f h)] at k;exact k
theorem diskRead_ok {N:Nat} {d:Disk} {i:Int} (hN:N≤100000) (o:OkD N d) {K:(Str×Int)->Prop} (k:K (readV d i)):disk_Read.F d i K:=by
 have h1:=o.s
 have h2:=o.c
 unfold disk_Read.F
 refine cond_t ?_ k
 rw [Bool.and_eq_true]
 exact⟨Nat.ble_eq_true_of_le (by omega),Nat.ble_eq_true_of_le (by omega)⟩
theorem areaRead_ok {N:Nat} {d:Disk} {i:Int} (hN:N≤100000) (o:OkD N d) {K:(Str×Int)->Prop} (k:K (aReadV d i)):q202.F d i K:=by
 have hs:=o.s
 unfold q202.F q202.FV
 unfold aReadV at k
 refine area_there_ok (by omega) (cond_ok (fun h=>?_) (fun h=>?_))
 ·rw [if_neg (of_decide_eq_false (not_t h))] at k;exact k
 have hb:=of_decide_eq_true (not_f h)
 rw [if_pos hb] at k
 rw [add2 (by omega) hb]
 refine diskRead_ok hN o (cond_ok (fun h=>?_) (fun h=>?_))
 ·rw [if_pos (ne_t h)] at k;exact k
 rw [if_neg (fun e=>e (ne_f h))] at k
 refine cond_ok (fun h=>?_) (fun h=>?_)
 ·rw [if_neg (bne_nat (b:=8) h)] at k;exact k
 ·rw [if_pos (bne_nat' (b:=8) h)] at k;exact k
section
variable {N:Nat} {n:Node} (hN:N≤6900) (h64:64≤N) (o:OkN N n)
include hN h64 o
omit h64 in
theorem GiveP_ok {b:Int} {K:NO->Prop} (k:K (giveN n b)):q204.F n b K:=by
 unfold q204.F q204.FV q203.F q203.FV
 refine areaRead_ok (by omega) o.st.d ?_
 refine packet_Encode_ok (by exact wZH) (by exact o.se) (gd_ok out1 ?_)
 exact k
theorem CopiedP_ok {b:Int} {K:NO->Prop} (k:K (copiedN n b)):q206.F n b K:=by
 unfold q206.F q206.FV
 unfold copiedN wipeN keepN at k
 refine cond_ok (fun h=>?_) (fun h=>?_)
 ·rw [if_neg (fun e=>nt (not_t h) e.1)] at k
  refine storeWipe_ok (by omega) h64 o.st (cond_ok (fun h=>?_) (fun h=>?_))
  ·rw [if_neg (ne_t h)] at k;exact nodeDown_ok k
  ·rw [if_pos (ne_f h)] at k;exact k
 refine cond_ok (fun h2=>?_) (fun h2=>?_)
 ·rw [if_neg (fun e=>ne_t h2 e.2)] at k
  refine storeWipe_ok (by omega) h64 o.st (cond_ok (fun h=>?_) (fun h=>?_))
  ·rw [if_neg (ne_t h)] at k;exact nodeDown_ok k
  ·rw [if_pos (ne_f h)] at k;exact k
 ·rw [if_pos ⟨not_f h,ne_f h2⟩] at k;exact k
theorem EndedP_ok {K:NO->Prop} (k:K (endedN n)):q207.F n K:=by
 unfold q207.F q207.FV
 unfold endedN commitN keepN at k
 dsimp only at k
 refine Retire_ok (storeCommit_ok (b:={ n.store.sup with vector:=retire n.store.sup.vector,pri:=n.primary }) (by omega) h64 o.st ⟨o.st.b,retire_vec o.st.v⟩ (cond_ok (fun h=>?_) (fun h=>?_)))
 ·have h:=ne_t h
  rw [if_neg h] at k
  exact nodeDown_ok (cond_f (ne0 h) k)
 ·have h:=ne_f h
  rw [if_pos h] at k
  refine cond_t (eq0 h) (packet_Encode_ok (by exact wZH) (by exact o.se) (gd_ok out1 ?_))
  exact k
omit hN h64 o in
theorem DoneP_ok {K:Node->Prop} (k:K (doneN n)):q208.F n K:=k
omit hN h64 o in
theorem next_wrap {m:Int}:IntKind.i64.wrap ((nextM m).1+1)=(nextM m).1+1:=by
 have:=next_bound m
 exact wrap_i64 (by omega)
theorem SeekP_ok {K:NO->Prop} (k:K (seekN n)):q190.F n K:=by
 unfold q190.F q190.FV
 unfold seekN commitN keepN at k
 dsimp only at k
 refine cond_ok (fun h=>?_) (fun h=>?_)
 ·rw [if_pos (.inl (not_t h))] at k;exact k
 refine cond_ok (fun h2=>?_) (fun h2=>?_)
 ·rw [if_pos (.inr (ne_t h2))] at k;exact k
 rw [if_neg (fun e=>e.elim (nf (not_f h)) (fun e=>e (ne_f h2)))] at k
 refine Next_ok o.st.m (cond_ok (fun h3=>?_) (fun h3=>?_))
 ·rw [if_pos h3] at k
  rw [next_wrap]
  refine packet_Encode_ok (by exact wZH) (by exact o.se) (gd_ok out1 ?_)
  exact k
 ·rw [if_neg (nt h3)] at k
  refine Retire_ok (storeCommit_ok (b:=⟨n.store.sup.blocks,retire n.peer.vector,false,false,false⟩) (by omega) h64 o.st ⟨o.st.b,retire_vec o.pe.2.1⟩ (cond_ok (fun h=>?_) (fun h=>?_)))
  ·have h:=ne_t h
   rw [if_neg h] at k
   exact nodeDown_ok (cond_f (ne0 h) k)
  ·have h:=ne_f h
   rw [if_pos h] at k
   refine cond_t (eq0 h) (packet_Encode_ok (by exact wZH) (by exact o.se) (gd_ok out1 ?_))
   exact k
theorem GotP_ok {b:Int} (hb:0≤b∧b < 9223372036854775807) {data:Str} {K:NO->Prop} (k:K (gotN n b data)):q205.F n b data K:=by
 unfold q205.F q205.FV
 rw [wrap_i64 (by omega)]
 unfold gotN at k
 refine cond_ok (fun h=>?_) (fun h=>?_)
 ·rw [if_pos (ne_t h)] at k;exact k
 rw [if_neg (fun e=>e (ne_f h))] at k
 dsimp only at k
 have op:=okS_put (i:=b) (data:=data) o.st h64
 refine storePut_ok (by omega) h64 o.st (cond_ok (fun h1=>?_) (fun h1=>?_))
 ·have h1:=ne_t h1
  have e:keepN n (stPut n.store b data)=(downN (setSt n (stPut n.store b data).1),false):=by unfold keepN;rw [if_neg h1]
  rw [e,if_pos rfl] at k
  exact nodeDown_ok (cond_t (by rw [ne0 h1];rfl) k)
 have h1:=ne_f h1
 have e:keepN n (stPut n.store b data)=(setSt n (stPut n.store b data).1,true):=by unfold keepN;rw [if_pos h1]
 rw [e,if_neg (by simp)] at k
 refine cond_f (by rw [eq0 h1];rfl) (storeWipe_ok (N:=N+1) (by omega) (by omega) op (cond_ok (fun h2=>?_) (fun h2=>?_)))
 ·have h2:=ne_t h2
  have e:wipeN (setSt n (stPut n.store b data).1) b=(downN (setSt n (stWipe (stPut n.store b data).1 b).1),false):=by unfold wipeN keepN;exact if_neg h2
  rw [e,if_pos rfl] at k
  exact nodeDown_ok (cond_t (by rw [ne0 h2];rfl) k)
 have h2:=ne_f h2
 have e:wipeN (setSt n (stPut n.store b data).1) b=(setSt n (stWipe (stPut n.store b data).1 b).1,true):=by unfold wipeN keepN;exact if_pos h2
 rw [e,if_neg (by simp)] at k
 have ow:=okS_wipe (i:=b) op (by omega)
 refine cond_f (by rw [eq0 h2];rfl) (packet_Encode_ok (by exact wZH) (by exact o.se) (gd_ok out1 ?_))
 dsimp only at k
 unfold seekN commitN keepN setSt at k
 dsimp only at k
 refine cond_ok (fun h=>?_) (fun h=>?_)
 ·rw [if_pos (.inl (not_t h))] at k;exact k
 rw [if_neg (fun e=>e.elim (nf (not_f h)) (fun e=>e rfl))] at k
 refine Next_ok ow.m (cond_ok (fun h3=>?_) (fun h3=>?_))
 ·rw [if_pos h3] at k
  rw [next_wrap]
  refine packet_Encode_ok (by exact wZH) (by exact o.se) (gd_ok (out_ok (by simp)) ?_)
  exact k
 ·rw [if_neg (nt h3)] at k
  refine Retire_ok (storeCommit_ok (N:=N+2) (b:=⟨(stWipe (stPut n.store b data).1 b).1.sup.blocks,retire n.peer.vector,false,false,false⟩) (by omega) (by omega) ow ⟨ow.b,retire_vec o.pe.2.1⟩ (cond_ok (fun h=>?_) (fun h=>?_)))
  ·have h:=ne_t h
   rw [if_neg h] at k
   exact nodeDown_ok (cond_f (ne0 h) k)
  ·have h:=ne_f h
   rw [if_pos h] at k
   refine cond_t (eq0 h) (packet_Encode_ok (by exact wZH) (by exact o.se) (gd_ok (out_ok (by simp)) ?_))
   exact k
end
end Gm

set_option maxRecDepth 100000
namespace Gm
open Go
end Gm

set_option maxRecDepth 100000
namespace Gm
open Go
theorem Place_ok {v:Vec} {g:Int} {K:Int->Prop} (h:K (place v g)):q155.F v g K:=by
 unfold q155.F q155.FV
 unfold place at h
 refine cond_ok (fun h0=>?_) (fun h0=>?_)
 ·rw [if_pos (eq_t h0)] at h;exact h
 rw [if_neg (eq_f h0)] at h
 unfold q154.F
 have w0:IntKind.i64.wrap ((0:Int)+1)=1:=rfl
 have w1:IntKind.i64.wrap ((1:Int)+1)=2:=rfl
 have w2:IntKind.i64.wrap ((2:Int)+1)=3:=rfl
 have w3:IntKind.i64.wrap ((3:Int)+1)=4:=rfl
 refine⟨5,round1 ?_⟩
 unfold q154.b0
 refine cond_t rfl (oget_ok (v:=v.current) rfl (cond_ok (fun h1=>?_) (fun h1=>?_)))
 ·rw [if_pos (eq_t h1).symm] at h;exact h
 rw [if_neg (fun e=>eq_f h1 e.symm)] at h
 rw [w0]
 refine round1 (cond_t rfl (oget_ok (v:=v.bitmap) rfl (cond_ok (fun h2=>?_) (fun h2=>?_))))
 ·rw [if_pos (eq_t h2).symm] at h;exact h
 rw [if_neg (fun e=>eq_f h2 e.symm)] at h
 rw [w1]
 refine round1 (cond_t rfl (oget_ok (v:=v.old0) rfl (cond_ok (fun h3=>?_) (fun h3=>?_))))
 ·rw [if_pos (eq_t h3).symm] at h;exact h
 rw [if_neg (fun e=>eq_f h3 e.symm)] at h
 rw [w2]
 refine round1 (cond_t rfl (oget_ok (v:=v.old1) rfl (cond_ok (fun h4=>?_) (fun h4=>?_))))
 ·rw [if_pos (eq_t h4).symm] at h;exact h
 rw [if_neg (fun e=>eq_f h4 e.symm)] at h
 rw [w3]
 exact round1 (cond_f rfl h)
theorem Has1_ok {v:Vec} {g:Int} {K:Bool->Prop} (h:K (!decide (place v g < 0))):q156.F v [g] K:=by
 unfold q156.F q156.FV
 refine cond_t rfl (oget_ok (v:=g) rfl (Place_ok (cond_ok (fun h1=>?_) (fun h1=>?_))))
 ·rw [h1] at h;exact h
 ·rw [h1] at h;exact cond_f rfl h
theorem ior_orM {a b:Int} (ha:inK .u32 a) (hb:inK .u32 b):ior .u32 a b=orM a b:=by
 obtain ⟨a1,a2⟩:=u32_toNat ha
 obtain ⟨b1,b2⟩:=u32_toNat hb
 have:=ior_nat (k:=.u32) rfl (x:=a.toNat) (y:=b.toNat) (by exact a1) (by exact b1)
 rw [a2,b2] at this
 exact this
theorem orM_zero {a:Int} (ha:inK .u32 a):orM 0 a=a:=by
 unfold orM
 rw [show (0:Int).toNat=0 from rfl,Nat.zero_or]
 exact(u32_toNat ha).2
theorem Union_ok {a b:Int} (ha:inK .u32 a) (hb:inK .u32 b) {K:Int->Prop} (h:K (orM a b)):q160.F [a,b] K:=by
 unfold q160.F
 refine⟨3,round1 ?_⟩
 unfold q160.b0
 refine cond_t rfl (oget_ok (v:=a) rfl (round1 ?_))
 dsimp only
 rw [ior_orM u32_zero ha,orM_zero ha]
 refine cond_t rfl (oget_ok (v:=b) rfl (round1 ?_))
 dsimp only
 rw [ior_orM ha hb]
 exact cond_f rfl h
theorem or_nil {a b:Int} (ha:inK .u32 a) (hb:inK .u32 b):orM a b=0↔a=0∧b=0:=by
 obtain ⟨_,a2⟩:=u32_toNat ha
 obtain ⟨_,b2⟩:=u32_toNat hb
 unfold orM
 constructor
 ·intro h
  have h:a.toNat ||| b.toNat=0:=by omega
  have:=Nat.or_eq_zero_iff.1 h
  omega
 ·rintro ⟨rfl,rfl⟩
  rfl
theorem from0 {x y:Hello} {K:Hello->Prop} (k:K x):q152.F ⟨x,y,0⟩ K:=cond_t rfl k
theorem from1 {x y:Hello} {K:Hello->Prop} (k:K y):q152.F ⟨x,y,1⟩ K:=cond_f rfl (cond_t rfl k)
theorem onto0 {x y:Hello} {K:Hello->Prop} (k:K y):q153.F ⟨x,y,0⟩ K:=cond_f rfl (cond_t rfl k)
theorem onto1 {x y:Hello} {K:Hello->Prop} (k:K x):q153.F ⟨x,y,1⟩ K:=cond_t rfl k
def kindP (r:Int):Int:=if r=2∨r=3 then 3 else if r=0∨r=1 then 2 else 4
theorem kindR {r:Int} {K:Int->Prop} (k:K (kindP r)):bif r==2 then K 3 else bif r==3 then K 3 else bif r==0 then K 2 else bif r==1 then K 2 else K 4:=by
 unfold kindP at k
 refine cond_ok (fun h=>?_) (fun h2=>cond_ok (fun h=>?_) (fun h3=>cond_ok (fun h=>?_) (fun h0=>cond_ok (fun h=>?_) (fun h1=>?_))))
 ·rw [if_pos (.inl (eq_t h))] at k;exact k
 ·rw [if_pos (.inr (eq_t h))] at k;exact k
 all_goals rw [if_neg (fun e=>e.elim (eq_f h2) (eq_f h3))] at k
 ·rw [if_pos (.inl (eq_t h))] at k;exact k
 ·rw [if_pos (.inr (eq_t h))] at k;exact k
 ·rw [if_neg (fun e=>e.elim (eq_f h0) (eq_f h1))] at k;exact k
theorem kind0 {x y:Hello} {K:Int->Prop} (k:K (kindP (place x.vector y.vector.current))):q157.F ⟨x,y,0⟩ K:=by
 unfold q157.F q157.FV
 refine from0 (onto0 (Place_ok ?_))
 exact kindR k
theorem kind1 {x y:Hello} {K:Int->Prop} (k:K (kindP (place y.vector x.vector.current))):q157.F ⟨x,y,1⟩ K:=by
 unfold q157.F q157.FV
 refine from1 (onto1 (Place_ok ?_))
 exact kindR k
theorem half_kindP (s t:Hello):halfV s t=if s.dis=true then 4 else if place s.vector t.vector.bitmap≥0 then 2 else if t.dis=true then 3 else kindP (place s.vector t.vector.current):=by
 have hp:=place_le s.vector t.vector.current
 unfold halfV kindP
 split
 ·rfl
 split
 ·rfl
 split
 ·rfl
 generalize place s.vector t.vector.current=r at hp ⊢
 repeat' split
 all_goals first
  | rfl
  | (exfalso;omega)
theorem halfR {s t:Hello} {Q:(Int->Prop)->Prop} (hq:∀ K,K (kindP (place s.vector t.vector.current))->Q K) {K:Int->Prop} (k:K (halfV s t)) :
  bif s.dis then K 4 else q156.F s.vector [t.vector.bitmap] fun r3=>bif r3 then K 2 else bif t.dis then K 3 else Q fun r4=>K r4:=by
 rw [half_kindP] at k
 refine cond_ok (fun h=>?_) (fun h1=>Has1_ok (cond_ok (fun h=>?_) (fun h2=>cond_ok (fun h=>?_) (fun h3=>?_))))
 ·rw [if_pos h] at k;exact k
 all_goals rw [if_neg (nt h1)] at k
 ·have h:¬ place s.vector t.vector.bitmap < 0:=of_decide_eq_false (not_t h)
  rw [if_pos (by omega)] at k;exact k
 all_goals
  have h2:place s.vector t.vector.bitmap < 0:=of_decide_eq_true (not_f h2)
  rw [if_neg (by omega)] at k
 ·rw [if_pos h] at k;exact k
 ·rw [if_neg (nt h3)] at k;exact hq _ k
theorem half0 {x y:Hello} {K:Int->Prop} (k:K (halfV x y)):q158.F ⟨x,y,0⟩ K:=by
 unfold q158.F q158.FV
 refine from0 (onto0 ?_)
 exact halfR (Q:=fun K=>q157.F ⟨x,y,0⟩ K) (fun _ k=>kind0 k) k
theorem half1 {x y:Hello} {K:Int->Prop} (k:K (halfV y x)):q158.F ⟨x,y,1⟩ K:=by
 unfold q158.F q158.FV
 refine from1 (onto1 ?_)
 exact halfR (Q:=fun K=>q157.F ⟨x,y,1⟩ K) (fun _ k=>kind1 k) k
theorem tellR {kind source:Int} {t:Hello} {K:Verdict->Prop} (k:K (ontoV kind source t)):(kind==4)=true->K ⟨4,-1⟩:=by
 intro h
 unfold ontoV noVer at k
 rw [if_pos (.inr (eq_t h))] at k
 exact k
theorem tellS {kind source:Int} {t:Hello} {K:Verdict->Prop} (k:K (ontoV kind source t)) (h4:(kind==4)=false):bif t.pri then K ⟨4,-1⟩ else K ⟨kind,source⟩:=by
 unfold ontoV noVer at k
 refine cond_ok (fun h=>?_) (fun h=>?_)
 ·rw [if_pos (.inl h)] at k;exact k
 ·rw [if_neg (fun e=>e.elim (nt h) (eq_f h4))] at k;exact k
theorem tell0 {x y:Hello} {kind:Int} {K:Verdict->Prop} (k:K (ontoV kind 0 y)):q159.F ⟨x,y,0⟩ kind K:=by
 unfold q159.F q159.FV
 refine cond_ok (fun h=>tellR k h) (fun h=>onto0 ?_)
 exact tellS k h
theorem tell1 {x y:Hello} {kind:Int} {K:Verdict->Prop} (k:K (ontoV kind 1 x)):q159.F ⟨x,y,1⟩ kind K:=by
 unfold q159.F q159.FV
 refine cond_ok (fun h=>tellR k h) (fun h=>onto1 ?_)
 exact tellS k h
theorem alikeR {x y:Hello} (hx:wHello x) (hy:wHello y) (hp:¬ (x.pri=true∧y.pri=true)) {K:Verdict->Prop} (k:K (sameGen x y)):q161.F x y K:=by
 unfold q161.F q161.FV
 unfold sameGen at k
 refine Union_ok hx.2.2 hy.2.2 (cond_ok (fun h=>?_) (fun h0=>?_))
 ·rw [if_pos ((or_nil hx.2.2 hy.2.2).1 (eq_t h))] at k;exact k
 rw [if_neg (fun e=>eq_f h0 ((or_nil hx.2.2 hy.2.2).2 e))] at k
 refine cond_ok (fun hxp=>?_) (fun hxp=>cond_ok (fun hyp=>?_) (fun hyp=>cond_ok (fun hw=>cond_ok (fun hxw=>?_) (fun hxw=>?_)) (fun hw=>?_)))
 ·rw [if_neg (fun e=>e.elim (fun e=>hp ⟨hxp,e⟩) (fun e=>nf hxp e.1))] at k;exact tell0 k
 ·rw [if_pos (.inl hyp)] at k;exact tell1 k
 ·rw [if_pos (.inr ⟨hxp,hw,not_t hxw⟩)] at k;exact tell1 k
 ·rw [if_neg (fun e=>e.elim (nt hyp) (fun e=>nf (not_f hxw) e.2.2))] at k;exact tell0 k
 ·rw [if_neg (fun e=>e.elim (nt hyp) (fun e=>nt hw e.2.1))] at k;exact tell0 k
theorem only_ff {K:Int->Prop} (k:K (-1)):q151.F false false K:=k
theorem gensR {x y:Hello} (hc:x.vector.current≠y.vector.current) {K:Verdict->Prop} (k:K (byGens x y)) :
  q156.F x.vector [y.vector.current] fun r11=>q156.F y.vector [x.vector.current] fun r12=>q151.F r11 r12 fun r13=>
   bif r13==(-1)then(q150.F fun r14=>K r14)else(q157.F ⟨x,y,r13⟩ fun r15=>q159.F ⟨x,y,r13⟩ r15 fun r16=>K r16):=by
 have key:∀ (v:Vec) (g:Int),v.current≠g->place v g≠0:=by
  intro v g h
  unfold place
  repeat' split
  all_goals first
   | decide
   | (rename_i e;exact(h e).elim)
 have p1:=place_le x.vector y.vector.current
 have p2:=place_le y.vector x.vector.current
 have q1:=key x.vector y.vector.current hc
 have q2:=key y.vector x.vector.current (fun e=>hc e.symm)
 have kk:∀ p:Int,p > 0->p≤3->kindsV p=kindP p:=by
  intro p h1 h2
  unfold kindsV kindP
  repeat' split
  all_goals first
   | rfl
   | (exfalso;omega)
 refine Has1_ok (Has1_ok ?_)
 unfold byGens at k
 by_cases h1:place x.vector y.vector.current < 0
 ·by_cases h2:place y.vector x.vector.current < 0
  ·rw [if_neg (by omega),if_neg (by omega)] at k
   rw [decide_eq_true h1,decide_eq_true h2]
   exact k
  ·rw [if_neg (by omega),if_pos (by omega),kk _ (by omega) p2.1] at k
   rw [decide_eq_true h1,decide_eq_false h2]
   show q157.F ⟨x,y,1⟩ fun r15=>q159.F ⟨x,y,1⟩ r15 fun r16=>K r16
   refine kind1 ?_
   exact tell1 k
 ·by_cases h2:place y.vector x.vector.current < 0
  ·rw [if_pos (by omega),kk _ (by omega) p1.1] at k
   rw [decide_eq_false h1,decide_eq_true h2]
   show q157.F ⟨x,y,0⟩ fun r15=>q159.F ⟨x,y,0⟩ r15 fun r16=>K r16
   refine kind0 ?_
   exact tell0 k
  ·rw [if_neg (by omega),if_neg (by omega)] at k
   rw [decide_eq_false h1,decide_eq_false h2]
   exact k
theorem restR {x y:Hello} (hx:wHello x) (hy:wHello y) (hp:¬ (x.pri=true∧y.pri=true)) (hi:¬ (x.inc=true∧y.inc=true)) (hd:¬ (x.dis=true∧y.dis=true)) {K:Verdict->Prop}
  (k:K (if x.inc=true then ontoV (halfV y x) 1 x else if y.inc=true then ontoV (halfV x y) 0 y else if x.dis=true then ontoV 3 1 x else if y.dis=true then ontoV 3 0 y else noHalf x y)) :
  q151.F x.inc y.inc fun r5=>bif r5 != (-1)then(q158.F ⟨x,y,IntKind.i64.wrap (1 - r5)⟩ fun r6=>q159.F ⟨x,y,IntKind.i64.wrap (1 - r5)⟩ r6 fun r7=>K r7)
   else(q151.F x.dis y.dis fun r8=>bif r8 != (-1)then(q159.F ⟨x,y,IntKind.i64.wrap (1 - r8)⟩ 3 fun r9=>K r9)
    else bif x.vector.current==y.vector.current then(q161.F x y fun r10=>K r10)
     else(q156.F x.vector [y.vector.current] fun r11=>q156.F y.vector [x.vector.current] fun r12=>q151.F r11 r12 fun r13=>
      bif r13==(-1)then(q150.F fun r14=>K r14)else(q157.F ⟨x,y,r13⟩ fun r15=>q159.F ⟨x,y,r13⟩ r15 fun r16=>K r16))):=by
 cases hxi:x.inc with
 | true=>
  cases hyi:y.inc with
  | true=>exact(hi ⟨hxi,hyi⟩).elim
  | false=>
   rw [if_pos hxi] at k
   show q158.F ⟨x,y,1⟩ fun r6=>q159.F ⟨x,y,1⟩ r6 fun r7=>K r7
   refine half1 ?_
   exact tell1 k
 | false=>
  rw [if_neg (nt hxi)] at k
  cases hyi:y.inc with
  | true=>
   rw [if_pos hyi] at k
   show q158.F ⟨x,y,0⟩ fun r6=>q159.F ⟨x,y,0⟩ r6 fun r7=>K r7
   refine half0 ?_
   exact tell0 k
  | false=>
   rw [if_neg (nt hyi)] at k
   refine only_ff (cond_f rfl ?_)
   cases hxd:x.dis with
   | true=>
    cases hyd:y.dis with
    | true=>exact(hd ⟨hxd,hyd⟩).elim
    | false=>
     rw [if_pos hxd] at k
     show q159.F ⟨x,y,1⟩ 3 fun r9=>K r9
     exact tell1 k
   | false=>
    rw [if_neg (nt hxd)] at k
    cases hyd:y.dis with
    | true=>
     rw [if_pos hyd] at k
     show q159.F ⟨x,y,0⟩ 3 fun r9=>K r9
     exact tell0 k
    | false=>
     rw [if_neg (nt hyd)] at k
     refine only_ff (cond_f rfl ?_)
     unfold noHalf at k
     refine cond_ok (fun h=>?_) (fun h=>?_)
     ·rw [if_pos (eq_t h)] at k;exact alikeR hx hy hp k
     ·rw [if_neg (eq_f h)] at k;exact gensR (eq_f h) k
theorem DecideP_ok {x y:Hello} (hx:wHello x) (hy:wHello y) {K:Verdict->Prop} (k:K (decideV x y)):q162.F x y K:=by
 rw [decide_of] at k
 unfold q162.F q162.FV
 refine cond_ok (fun h=>?_) (fun hb=>?_)
 ·rw [if_pos (.inl (ne_t h))] at k;exact k
 have hb:=ne_f hb
 by_cases hp:x.pri=true∧y.pri=true
 ·rw [if_pos (.inr (.inl hp))] at k
  exact cond_t hp.1 (cond_t hp.2 k)
 have st1:∀ {A B:Prop},B->(bif x.pri then(bif y.pri then A else B)else B):=by
  intro A B h
  cases h1:x.pri with
  | false=>exact h
  | true=>
   cases h2:y.pri with
   | false=>exact h
   | true=>exact(hp ⟨h1,h2⟩).elim
 refine st1 ?_
 by_cases hi:x.inc=true∧y.inc=true
 ·rw [if_pos (.inr (.inr (.inl hi)))] at k
  exact cond_t hi.1 (cond_t hi.2 k)
 have st2:∀ {A B:Prop},B->(bif x.inc then(bif y.inc then A else B)else B):=by
  intro A B h
  cases h1:x.inc with
  | false=>exact h
  | true=>
   cases h2:y.inc with
   | false=>exact h
   | true=>exact(hi ⟨h1,h2⟩).elim
 refine st2 ?_
 by_cases hd:x.dis=true∧y.dis=true
 ·rw [if_pos (.inr (.inr (.inr hd)))] at k
  exact cond_t hd.1 (cond_t hd.2 k)
 have st3:∀ {A B:Prop},B->(bif x.dis then(bif y.dis then A else B)else B):=by
  intro A B h
  cases h1:x.dis with
  | false=>exact h
  | true=>
   cases h2:y.dis with
   | false=>exact h
   | true=>exact(hd ⟨h1,h2⟩).elim
 refine st3 ?_
 rw [if_neg (fun e=>e.elim (fun e=>e hb) (fun e=>e.elim hp (fun e=>e.elim hi hd)))] at k
 exact restR hx hy hp hi hd k
theorem BitsP_ok {v:Verdict} {x y:Hello} (hx:wHello x) (hy:wHello y) {K:Int->Prop} (k:K (bitsV v x y)):q181.F v x y K:=by
 unfold q181.F q181.FV
 unfold bitsV at k
 refine cond_ok (fun h=>?_) (fun h2=>cond_ok (fun h=>?_) (fun h3=>?_))
 ·rw [if_pos (eq_t h)] at k;exact Union_ok hx.2.2 hy.2.2 k
 ·rw [if_neg (eq_f h2),if_pos (eq_t h)] at k;exact maskAll_ok hx.1 k
 ·rw [if_neg (eq_f h2),if_neg (eq_f h3)] at k;exact k
theorem OfP_ok {s:Super} {p:Bool} {m:Int} {K:Hello->Prop} (h:K (hOf s p m)):q149.F s p m K:=by
 unfold q149.F
 unfold hOf at h
 refine cond_ok (fun h1=>?_) (fun h1=>?_) <;> rw [h1] at h <;> exact h
section
variable {N:Nat} {n:Node} (hN:N≤6800) (h64:64≤N) (o:OkN N n)
include o
include hN h64
theorem JoinP_ok {m:Int} (hm:inK .u32 m) {K:(Store×Int)->Prop} (k:K (stJoin n.store m)):q185.F n.store m K:=by
 unfold q185.F q185.FV
 unfold stJoin stSave at k
 refine Union_ok o.st.m hm (cond_ok (fun h1=>?_) (fun h1=>?_))
 ·rw [if_pos (eq_t h1)] at k;exact k
 rw [if_neg (eq_f h1)] at k
 have hu:=or_u32 o.st.m hm
 have:=bits_Save_ok (d:=n.store.disk) (m:=(orM n.store.mask m).toNat) (K:=fun r2=>bif r2.2==0 then K (⟨r2.1,n.store.sup,orM n.store.mask m⟩,r2.2)else K (⟨r2.1,n.store.sup,n.store.mask⟩,r2.2)) (u32_toNat hu).1 (by omega) h64 o.st.d (cond_ok (fun h2=>by
  rw [if_pos (eq_t h2)] at k;exact k) (fun h2=>by
  rw [if_neg (eq_f h2)] at k;exact k))
 rwa [(u32_toNat hu).2] at this
def afterV (n:Node) (h:Hello) (v:Verdict×Int):NO:=
 if v.1.kind=4 then(n,[closeO n])
 else if v.1.kind=1 then
  let c:=commitN n { n.store.sup with vector:=retire n.store.sup.vector,pri:=n.primary }
  (if c.2=true then enterN c.1 2 h else c.1,[])
 else
  let j:=keepN n (stJoin n.store v.2)
  if j.2=false then(j.1,[])
  else if v.1.source=n.id then(enterN j.1 3 h,[])
  else
   let c:=commitN j.1 { n.store.sup with inc:=true,pri:=false,vector:=fromVec n.store.sup.vector h.vector.current }
   if c.2=false then(c.1,[])else seekN (enterN c.1 4 h)
theorem afterV_ok {v:Verdict} {x y h:Hello} (hx:wHello x) (hy:wHello y) (hh:wHello h) {K:NO->Prop} (k:K (afterV n h (v,bitsV v x y))) :
  (bif(v.kind==4)then(bif(decide (([(⟨3,n.id,0,0,([]:Str)⟩:Outp)]:List Outp).length * 48≤room))then(K (n,([(⟨3,n.id,0,0,([]:Str)⟩:Outp)]:List Outp)))else False)else(bif(v.kind==1)then(q163.F n.store.sup.vector fun r20=>(q179.F n.store (⟨n.store.sup.blocks,r20,n.store.sup.inc,n.primary,n.store.sup.dis⟩:Super) fun r21=>(bif(r21.2 != 0)then(q180.F (⟨n.id,n.up,r21.1,n.primary,n.state,n.session,n.peer,n.peerPri,n.req,n.asking,n.askId,n.wanted,n.minted,n.draws,n.mints⟩:Node) fun r22=>(bif(r21.2==0)then(K ((⟨r22.id,r22.up,r22.store,r22.primary,2,r22.session,h,h.pri,r22.req,r22.asking,r22.askId,r22.wanted,r22.minted,r22.draws,r22.mints⟩:Node),([]:List Outp)))else(K (r22,([]:List Outp)))))else(bif(r21.2==0)then(K ((⟨n.id,n.up,r21.1,n.primary,2,n.session,h,h.pri,n.req,n.asking,n.askId,n.wanted,n.minted,n.draws,n.mints⟩:Node),([]:List Outp)))else(K ((⟨n.id,n.up,r21.1,n.primary,n.state,n.session,n.peer,n.peerPri,n.req,n.asking,n.askId,n.wanted,n.minted,n.draws,n.mints⟩:Node),([]:List Outp)))))))else(q181.F v x y fun r23=>(q185.F n.store r23 fun r24=>(bif(r24.2 != 0)then(q180.F (⟨n.id,n.up,r24.1,n.primary,n.state,n.session,n.peer,n.peerPri,n.req,n.asking,n.askId,n.wanted,n.minted,n.draws,n.mints⟩:Node) fun r25=>(bif(!(r24.2==0))then(K (r25,([]:List Outp)))else(bif(v.source==r25.id)then(K ((⟨r25.id,r25.up,r25.store,r25.primary,3,r25.session,h,h.pri,r25.req,r25.asking,r25.askId,r25.wanted,r25.minted,r25.draws,r25.mints⟩:Node),([]:List Outp)))else(q186.F r25.store.sup.vector h.vector.current fun r26=>(q179.F r25.store (⟨r25.store.sup.blocks,r26,true,false,r25.store.sup.dis⟩:Super) fun r27=>(bif(r27.2 != 0)then(q180.F (⟨r25.id,r25.up,r27.1,r25.primary,r25.state,r25.session,r25.peer,r25.peerPri,r25.req,r25.asking,r25.askId,r25.wanted,r25.minted,r25.draws,r25.mints⟩:Node) fun r28=>(bif(!(r27.2==0))then(K (r28,([]:List Outp)))else(q190.F (⟨r28.id,r28.up,r28.store,r28.primary,4,r28.session,h,h.pri,r28.req,r28.asking,r28.askId,r28.wanted,r28.minted,r28.draws,r28.mints⟩:Node) fun r29=>(K (r29.1,r29.2)))))else(bif(!(r27.2==0))then(K ((⟨r25.id,r25.up,r27.1,r25.primary,r25.state,r25.session,r25.peer,r25.peerPri,r25.req,r25.asking,r25.askId,r25.wanted,r25.minted,r25.draws,r25.mints⟩:Node),([]:List Outp)))else(q190.F (⟨r25.id,r25.up,r27.1,r25.primary,4,r25.session,h,h.pri,r25.req,r25.asking,r25.askId,r25.wanted,r25.minted,r25.draws,r25.mints⟩:Node) fun r30=>(K (r30.1,r30.2))))))))))else(bif(!(r24.2==0))then(K ((⟨n.id,n.up,r24.1,n.primary,n.state,n.session,n.peer,n.peerPri,n.req,n.asking,n.askId,n.wanted,n.minted,n.draws,n.mints⟩:Node),([]:List Outp)))else(bif(v.source==n.id)then(K ((⟨n.id,n.up,r24.1,n.primary,3,n.session,h,h.pri,n.req,n.asking,n.askId,n.wanted,n.minted,n.draws,n.mints⟩:Node),([]:List Outp)))else(q186.F r24.1.sup.vector h.vector.current fun r31=>(q179.F r24.1 (⟨r24.1.sup.blocks,r31,true,false,r24.1.sup.dis⟩:Super) fun r32=>(bif(r32.2 != 0)then(q180.F (⟨n.id,n.up,r32.1,n.primary,n.state,n.session,n.peer,n.peerPri,n.req,n.asking,n.askId,n.wanted,n.minted,n.draws,n.mints⟩:Node) fun r33=>(bif(!(r32.2==0))then(K (r33,([]:List Outp)))else(q190.F (⟨r33.id,r33.up,r33.store,r33.primary,4,r33.session,h,h.pri,r33.req,r33.asking,r33.askId,r33.wanted,r33.minted,r33.draws,r33.mints⟩:Node) fun r34=>(K (r34.1,r34.2)))))else(bif(!(r32.2==0))then(K ((⟨n.id,n.up,r32.1,n.primary,n.state,n.session,n.peer,n.peerPri,n.req,n.asking,n.askId,n.wanted,n.minted,n.draws,n.mints⟩:Node),([]:List Outp)))else(q190.F (⟨n.id,n.up,r32.1,n.primary,4,n.session,h,h.pri,n.req,n.asking,n.askId,n.wanted,n.minted,n.draws,n.mints⟩:Node) fun r35=>(K (r35.1,r35.2)))))))))))))):=by
 unfold afterV at k
 dsimp only at k
 refine cond_ok (fun h4=>?_) (fun h4=>?_)
 ·rw [if_pos (eq_t h4)] at k
  exact gd_ok out1 k
 rw [if_neg (eq_f h4)] at k
 refine cond_ok (fun h1=>?_) (fun h1=>?_)
 ·rw [if_pos (eq_t h1)] at k
  unfold commitN keepN at k
  refine Retire_ok (storeCommit_ok (b:={ n.store.sup with vector:=retire n.store.sup.vector,pri:=n.primary }) (by omega) h64 o.st ⟨o.st.b,retire_vec o.st.v⟩ (cond_ok (fun h=>?_) (fun h=>?_)))
  ·have h:=ne_t h
   rw [if_neg h] at k
   exact nodeDown_ok (cond_f (ne0 h) k)
  ·have h:=ne_f h
   rw [if_pos h] at k
   exact cond_t (eq0 h) k
 rw [if_neg (eq_f h1)] at k
 have hbits:inK .u32 (bitsV v x y):=by
  unfold bitsV
  split
  ·exact or_u32 hx.2.2 hy.2.2
  split
  ·exact all_u32 _
  ·exact u32_zero
 refine BitsP_ok hx hy (JoinP_ok hN h64 o hbits (cond_ok (fun h'=>?_) (fun h'=>?_)))
 ·have h':=ne_t h'
  have q:keepN n (stJoin n.store (bitsV v x y))=(downN (setSt n (stJoin n.store (bitsV v x y)).1),false):=by unfold keepN;rw [if_neg h']
  rw [q,if_pos rfl] at k
  exact nodeDown_ok (cond_t (by rw [ne0 h'];rfl) k)
 have h':=ne_f h'
 have q:keepN n (stJoin n.store (bitsV v x y))=(setSt n (stJoin n.store (bitsV v x y)).1,true):=by unfold keepN;rw [if_pos h']
 rw [q,if_neg (by simp)] at k
 have oj:OkS (N+1) (stJoin n.store (bitsV v x y)).1:=okS_join o.st h64 hbits
 have hsup:(stJoin n.store (bitsV v x y)).1.sup=n.store.sup:=join_sup _ _
 refine cond_f (by rw [eq0 h'];rfl) (cond_ok (fun hs=>?_) (fun hs=>?_))
 ·rw [if_pos (eq_t hs)] at k;exact k
 rw [if_neg (eq_f hs)] at k
 generalize (stJoin n.store (bitsV v x y)).1=s1 at oj hsup k ⊢
 rw [← hsup] at k
 have w:wSup { s1.sup with inc:=true,pri:=false,vector:=fromVec s1.sup.vector h.vector.current }:=⟨oj.b,from_vec oj.v hh.2.1.1⟩
 show q179.F s1 { s1.sup with inc:=true,pri:=false,vector:=fromVec s1.sup.vector h.vector.current } _
 refine storeCommit_ok (N:=N+1) (by omega) (by omega) oj w (cond_ok (fun hc=>?_) (fun hc=>?_))
 ·have hc:=ne_t hc
  have q2:commitN (setSt n s1) { s1.sup with inc:=true,pri:=false,vector:=fromVec s1.sup.vector h.vector.current } = (downN (setSt n (stCommit s1 { s1.sup with inc:=true,pri:=false,vector:=fromVec s1.sup.vector h.vector.current }).1),false):=by
   unfold commitN keepN
   exact if_neg hc
  rw [q2,if_pos rfl] at k
  exact nodeDown_ok (cond_t (by rw [ne0 hc];rfl) k)
 ·have hc:=ne_f hc
  have q2:commitN (setSt n s1) { s1.sup with inc:=true,pri:=false,vector:=fromVec s1.sup.vector h.vector.current } = (setSt n (stCommit s1 { s1.sup with inc:=true,pri:=false,vector:=fromVec s1.sup.vector h.vector.current }).1,true):=by
   unfold commitN keepN
   exact if_pos hc
  rw [q2,if_neg (by simp)] at k
  have oc:OkS (N+2) (stCommit s1 { s1.sup with inc:=true,pri:=false,vector:=fromVec s1.sup.vector h.vector.current }).1:=okS_commit oj (by omega) w
  have on:OkN (N+2) (enterN (setSt n (stCommit s1 { s1.sup with inc:=true,pri:=false,vector:=fromVec s1.sup.vector h.vector.current }).1) 4 h):=
   ⟨oc,o.se,hh,o.rq,Nat.le_trans o.dl (by omega),o.dg,Nat.le_trans o.ml (by omega),o.wa⟩
  exact cond_f (by rw [eq0 hc];rfl) (SeekP_ok (N:=N+2) (by omega) (by omega) on k)
theorem MetP_ok {h:Hello} (hid:n.id=0∨n.id=1) (hh:wHello h) {K:NO->Prop} (k:K (metN n h)):q191.F n h K:=by
 unfold q191.F q191.FV
 refine OfP_ok ?_
 have hw:wHello (ownN n):=own_w o
 have ev:metN n h=afterV n h (verdictN n h):=rfl
 rw [ev] at k
 unfold verdictN at k
 rcases hid with e | e
 ·rw [if_neg (show ¬ n.id=1 by omega),if_neg (show ¬ n.id=1 by omega)] at k
  refine cond_t (eq0 e) (DecideP_ok hw hh ?_)
  exact afterV_ok hN h64 o hw hh hh k
 ·rw [if_pos e,if_pos e] at k
  refine cond_f (by rw [e];rfl) (cond_t (by rw [e];rfl) (DecideP_ok hh hw ?_))
  exact afterV_ok hN h64 o hh hw hh k
end
end Gm
