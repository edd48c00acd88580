/- Clusters: what the document's functions answer. -/
import Derived.Test.YtfjhdboapcckpaaGreatDoorGdW4
import Derived.Test.YtfjhdboapcckpaaGreatDoorGdT8
set_option maxRecDepth 100000
namespace Gm
open Go
def bI (i:Bool):Int:=if i=true then 1 else 0
theorem bI_not (i:Bool):IntKind.i64.wrap (1 - bI i)=bI (!i):=by cases i <;> rfl
theorem lsend_ok {l:Link} {i:Bool} {ps:List Str} (hu:l.up=true) (h1:(toC l i).length≤100000) (h2:ps.length≤100000) {K:(Link×Int)->Prop} (k:K (setTo l i (toC l i++ps),0)):q146.F l (bI i) ps K:=by
 unfold q146.F
 cases i
 ·have h1:l.to0.length≤100000:=h1
  refine cond_f rfl (cond_f (by rw [hu];rfl) (cond_t rfl (gd_ok (fit_ok (by omega)) (gd_ok (fit_ok (by omega)) (cond_t rfl k)))))
 ·have h1:l.to1.length≤100000:=h1
  refine cond_t rfl (cond_f rfl (cond_f (by rw [hu];rfl) (cond_f rfl (cond_t rfl (gd_ok (fit_ok (by omega)) (gd_ok (fit_ok (by omega)) (cond_f rfl (cond_t rfl k))))))))
theorem close_ok {l:Link} {K:Link->Prop} (k:K (closeL l)):q147.F l K:=k
def sndP (n0 n1:Node) (l:Link) (w0 w1:Bool) (out:List Outp) (K:CO->Prop):Prop:=
 bif !n1.up then K (⟨n0,n1,l,w0,w1⟩,out)else q148.F n1 fun r=>bif decide ((out.length+r.2.length) * 48≤room)then(bif !r.1.up then K (⟨n0,r.1,l,w0,false⟩,out++r.2)else K (⟨n0,r.1,l,w0,w1⟩,out++r.2))else False
def endP (c:Cluster) (out:List Outp) (K:CO->Prop):Prop:=
 q147.F c.link fun r=>bif !c.n0.up then sndP c.n0 c.n1 r c.w0 c.w1 out K else q148.F c.n0 fun q=>bif decide ((out.length+q.2.length) * 48≤room)then(bif !q.1.up then sndP q.1 c.n1 r false c.w1 (out++q.2) K else sndP q.1 c.n1 r c.w0 c.w1 (out++q.2) K)else False
def sndP0 (n0 n1:Node) (l:Link) (w0 w1:Bool) (K:CO->Prop):Prop:=
 bif !n1.up then K (⟨n0,n1,l,w0,w1⟩,[])else q148.F n1 fun r=>bif decide (r.2.length * 48≤room)then(bif !r.1.up then K (⟨n0,r.1,l,w0,false⟩,r.2)else K (⟨n0,r.1,l,w0,w1⟩,r.2))else False
def endP0 (c:Cluster) (K:CO->Prop):Prop:=
 q147.F c.link fun r=>bif !c.n0.up then sndP0 c.n0 c.n1 r c.w0 c.w1 K else q148.F c.n0 fun q=>bif decide (q.2.length * 48≤room)then(bif !q.1.up then sndP q.1 c.n1 r false c.w1 q.2 K else sndP q.1 c.n1 r c.w0 c.w1 q.2 K)else False
section
variable {N:Nat} (hN:N≤6000) (h64:64≤N)
include hN h64
theorem snd_ok {n0 n1:Node} {l:Link} {w0 w1:Bool} {out:List Outp} (o:OkN N n1) (ho:out.length≤1000) {K:CO->Prop} (k:K (loseC (⟨n0,n1,l,w0,w1⟩,out) true)):sndP n0 n1 l w0 w1 out K:=by
 unfold loseC at k
 unfold sndP
 refine cond_ok (fun h=>?_) (fun h=>?_)
 ·rw [if_pos (show(nodeC (⟨n0,n1,l,w0,w1⟩:Cluster) true).up=false from not_t h)] at k;exact k
 rw [if_neg (show ¬ (nodeC (⟨n0,n1,l,w0,w1⟩:Cluster) true).up=false from nf (not_f h))] at k
 dsimp only at k
 have hl:=(okO_lose n1).1
 refine lose_ok (by omega) h64 o (gd_ok (out_ok (by omega)) (cond_ok (fun h=>?_) (fun h=>?_)))
 ·rw [if_pos (show(loseN (nodeC (⟨n0,n1,l,w0,w1⟩:Cluster) true)).1.up=false from not_t h)] at k;exact k
 ·rw [if_neg (show ¬ (loseN (nodeC (⟨n0,n1,l,w0,w1⟩:Cluster) true)).1.up=false from nf (not_f h))] at k;exact k
theorem end_ok {c:Cluster} {out:List Outp} (o:OkC N c) (ho:out.length≤900) {K:CO->Prop} (k:K (endC c out)):endP c out K:=by
 obtain ⟨n0,n1,l,w0,w1⟩:=c
 have o0:OkN N n0:=o.a
 have o1:OkN N n1:=o.b
 unfold endC at k
 unfold endP
 refine close_ok (cond_ok (fun h=>?_) (fun h=>?_))
 ·refine snd_ok hN h64 o1 (by omega) (use_eq k ?_)
  have:loseC (({ (⟨n0,n1,l,w0,w1⟩:Cluster) with link:=closeL l }),out) false=(⟨n0,n1,closeL l,w0,w1⟩,out):=by
   unfold loseC
   rw [if_pos (show(nodeC (⟨n0,n1,closeL l,w0,w1⟩:Cluster) false).up=false from not_t h)]
  rw [this]
 have hl:=(okO_lose n0).1
 refine lose_ok (by omega) h64 o0 (gd_ok (out_ok (by omega)) (cond_ok (fun h2=>?_) (fun h2=>?_)))
 ·refine snd_ok hN h64 o1 (by rw [List.length_append];omega) (use_eq k ?_)
  have:loseC (({ (⟨n0,n1,l,w0,w1⟩:Cluster) with link:=closeL l }),out) false=(⟨(loseN n0).1,n1,closeL l,false,w1⟩,out++(loseN n0).2):=by
   unfold loseC
   rw [if_neg (show ¬ (nodeC (⟨n0,n1,closeL l,w0,w1⟩:Cluster) false).up=false from nf (not_f h))]
   dsimp only
   rw [if_pos (show(loseN (nodeC (⟨n0,n1,closeL l,w0,w1⟩:Cluster) false)).1.up=false from not_t h2)]
   rfl
  rw [this]
 ·refine snd_ok hN h64 o1 (by rw [List.length_append];omega) (use_eq k ?_)
  have:loseC (({ (⟨n0,n1,l,w0,w1⟩:Cluster) with link:=closeL l }),out) false=(⟨(loseN n0).1,n1,closeL l,w0,w1⟩,out++(loseN n0).2):=by
   unfold loseC
   rw [if_neg (show ¬ (nodeC (⟨n0,n1,closeL l,w0,w1⟩:Cluster) false).up=false from nf (not_f h))]
   dsimp only
   rw [if_neg (show ¬ (loseN (nodeC (⟨n0,n1,closeL l,w0,w1⟩:Cluster) false)).1.up=false from nf (not_f h2))]
   rfl
  rw [this]
omit hN h64 in
theorem endP_nil {c:Cluster} {K:CO->Prop} (h:endP c [] K):endP0 c K:=by
 have e:∀ n0 n1 l w0 w1,sndP n0 n1 l w0 w1 [] K=sndP0 n0 n1 l w0 w1 K:=by
  intro n0 n1 l w0 w1
  unfold sndP sndP0
  simp only [List.length_nil,Nat.zero_add,List.nil_append]
 unfold endP at h
 simp only [List.length_nil,Nat.zero_add,List.nil_append,e] at h
 exact h
end
def fin (c1:Cluster) (i:Bool) (up closes:Bool) (out:List Outp):CO:=
 if (if up=false then setW c1 i false else c1).link.up=false∨(up=true∧closes=false)then(if up=false then setW c1 i false else c1,out)
 else endC (if closes=true then { (if up=false then setW c1 i false else c1) with w0:=false,w1:=false } else(if up=false then setW c1 i false else c1)) out
theorem after_of (c:Cluster) (i:Bool) (r:NO):afterC c i r=fin (putC (setN c i r.1) i r.2) i r.1.up (r.2.any fun o=>o.kind==3) (r.2.filter fun o=>!(o.kind==1)):=rfl
section
variable {N:Nat} (hN:N≤6000) (h64:64≤N)
include hN h64
theorem kx_ok {x:q149.L0} {i:Bool} (hi:x.i=bI i) (o:OkC N x.m0) (ho:x.out.length≤900) {K:CO->Prop} (k:K (fin x.m0 i x.m1.up x.closes x.out)) :
  q149.kx0V q146.F q147.F q148.F K x:=by
 have ends:∀ c:Cluster,OkC N c->K (endC c x.out)->endP c x.out K:=fun c oc h=>end_ok hN h64 oc ho h
 have ow:∀ (a b:Bool),OkC N ⟨x.m0.n0,x.m0.n1,x.m0.link,a,b⟩:=fun a b=>⟨o.a,o.b,o.l⟩
 unfold q149.kx0V
 unfold fin at k
 rw [hi]
 cases hu:x.m1.up <;> cases hl:x.m0.link.up <;> cases hc:x.closes <;> cases i <;> rw [hu,hc] at k
 all_goals
  simp only [Bool.not_true,Bool.not_false,cond_true,cond_false,show(bI false==0)=true from rfl,show(bI true==0)=false from rfl,show(bI true==1)=true from rfl]
 all_goals
  simp only [if_true,if_false,Bool.false_eq_true,Bool.true_eq_false,setW,hl,true_or,or_true,false_or,and_false,false_and,and_self] at k
 all_goals first
  | exact k
  | exact ends _ (ow _ _) k
  | exact ends _ o k
theorem after_ok {c:Cluster} {i:Bool} {n:Node} {l:List Outp} (o:OkC N c) (on:OkN N n) (hl:OkO 3 l) (hNl:N+10≤6000) {K:CO->Prop} (k:K (afterC c i (n,l))):q149.F c (bI i) n l K:=by
 rw [after_of] at k
 have o1:=okC_set o (Nat.le_refl N) on i
 have put_up:∀ (c:Cluster) (l:List Outp),(putC c i l).link.up=c.link.up:=by
  intro c l
  unfold putC
  split
  ·cases i <;> rfl
  ·rfl
 have main:∀ (m2:Cluster) (kx:q149.L0->Prop),(∀ x:q149.L0,x.i=bI i->OkC (N+3) x.m0->x.out.length≤900->K (fin x.m0 i x.m1.up x.closes x.out)->kx x)->
   ∃ m,loopB (q149.b0V q146.F q147.F q148.F) m kx (fun _=>False) ⟨bI i,l,[],false,0,setN c i n,n,m2⟩:=by
  intro m2 kx hkx
  refine loop_ok (I:=fun x:q149.L0=>∃ j:Nat,j≤l.length∧x=⟨bI i,l,(l.take j).filter fun o=>!(o.kind==1),(l.take j).any fun o=>o.kind==3,j,putC (setN c i n) i (l.take j),n,m2⟩)
   (m:=fun x:q149.L0=>l.length - x.k.toNat) ?_ ⟨0,by omega,?_⟩
  ·rintro _ ⟨j,hj,rfl⟩ rec hrec
   unfold q149.b0V
   dsimp only
   refine cond_ok (fun h1=>?_) (fun h1=>?_)
   ·have hlt:=lt_of_dec h1
    have hw:IntKind.i64.wrap ((j:Int)+1)=((j+1:Nat):Int):=wrap_lt hlt (by have:=hl.1;unfold big;omega)
    have hm:l.length - ((j+1:Nat):Int).toNat < l.length - ((j:Nat):Int).toNat:=by omega
    have et:=take_succ hlt
    have hlen:=hl.1
    have hf:((l.take j).filter fun o=>!(o.kind==1)).length≤3:=Nat.le_trans (List.length_filter_le _ _) (by rw [List.length_take];omega)
    refine oget_ok (getI_ok hlt) (cond_ok (fun h2=>?_) (fun h2=>?_))
    ·have hk:(l[j].kind==1)=true:=h2
     have h3:(l[j].kind==3)=false:=by rw [eq_t hk];rfl
     have eo:(l.take (j+1)).filter (fun o=>!(o.kind==1))=(l.take j).filter fun o=>!(o.kind==1):=by
      rw [et,List.filter_append,List.filter_cons_of_neg (by rw [hk];simp),List.filter_nil,List.append_nil]
     have ec:((l.take (j+1)).any fun o=>o.kind==3)=(l.take j).any fun o=>o.kind==3:=by
      rw [et,List.any_append]
      simp only [List.any_cons,List.any_nil,h3,Bool.or_false]
     refine cond_ok (fun h4=>?_) (fun h4=>?_)
     ·rw [put_up] at h4
      have hq:∀ x:Link,toC (putC (setN c i n) i (l.take j)).link (!i)=toC (setN c i n).link (!i)++((l.take j).filter fun o=>o.kind==1).map (·.data):=by
       intro _
       unfold putC
       rw [if_pos h4]
       cases i <;> rfl
      refine oget_ok (getI_ok hlt) ?_
      rw [bI_not]
      have hq:=hq zL
      refine lsend_ok (by rw [put_up];exact h4) ?_ (by simp) ?_
      ·rw [hq,List.length_append,List.length_map]
       have h5:=(o1.l.to (!i)).1
       have h6:=List.length_filter_le (fun o:Outp=>o.kind==1) (l.take j)
       rw [List.length_take] at h6
       omega
      ·rw [hw]
       refine hrec _ ⟨j+1,hlt,?_⟩ hm
       rw [eo,ec]
       congr 1
       rw [hq]
       have e1:((l.take (j+1)).filter fun o=>o.kind==1)=((l.take j).filter fun o=>o.kind==1)++[l[j]]:=by
        rw [et,List.filter_append,List.filter_cons_of_pos (p:=fun o:Outp=>o.kind==1) hk,List.filter_nil]
       unfold putC
       rw [if_pos h4,if_pos h4,e1,List.map_append,← List.append_assoc]
       cases i <;> rfl
     ·rw [put_up] at h4
      rw [hw]
      refine hrec _ ⟨j+1,hlt,?_⟩ hm
      rw [eo,ec]
      congr 1
      unfold putC
      rw [if_neg (nt h4),if_neg (nt h4)]
    ·have hk:(l[j].kind==1)=false:=h2
     have eo:(l.take (j+1)).filter (fun o=>!(o.kind==1))=((l.take j).filter fun o=>!(o.kind==1))++[l[j]]:=by
      rw [et,List.filter_append,List.filter_cons_of_pos (by rw [hk];rfl),List.filter_nil]
     have ep:putC (setN c i n) i (l.take (j+1))=putC (setN c i n) i (l.take j):=by
      unfold putC
      have:((l.take (j+1)).filter fun o=>o.kind==1)=((l.take j).filter fun o=>o.kind==1):=by
       rw [et,List.filter_append,List.filter_cons_of_neg (by rw [hk];simp),List.filter_nil,List.append_nil]
      rw [this]
     have ec:((l.take (j+1)).any fun o=>o.kind==3)=(((l.take j).any fun o=>o.kind==3)||(l[j].kind==3)):=by
      rw [et,List.any_append]
      simp only [List.any_cons,List.any_nil,Bool.or_false]
     refine cond_ok (fun h4=>?_) (fun h4=>?_)
     ·refine oget_ok (getI_ok hlt) (gd_ok (out_ok (by rw [List.length_singleton];omega)) ?_)
      rw [hw]
      refine hrec _ ⟨j+1,hlt,?_⟩ hm
      rw [eo,ep,ec,h4,Bool.true_or]
     ·refine oget_ok (getI_ok hlt) (oget_ok (getI_ok hlt) (gd_ok (out_ok (by rw [List.length_singleton];omega)) ?_))
      rw [hw]
      refine hrec _ ⟨j+1,hlt,?_⟩ hm
      rw [eo,ep,ec,h4,Bool.false_or]
   ·have e:=le_of_dec h1 hj
    subst e
    rw [List.take_length]
    refine hkx _ rfl ?_ ?_ k
    ·exact okC_put o1 i hl
    ·have:=List.length_filter_le (fun o:Outp=>!(o.kind==1)) l
     have:=hl.1
     dsimp only
     omega
  ·have:putC (setN c i n) i (l.take 0)=setN c i n:=by
    unfold putC
    split
    ·cases i <;> simp [setTo,toC]
    ·rfl
   simp only [this]
   rfl
 unfold q149.F q149.FV
 cases i
 ·exact cond_t rfl (main _ _ (fun x h1 h2 h3 h4=>kx_ok (N:=N+3) (by omega) (by omega) h1 h2 h3 h4))
 ·exact cond_f rfl (cond_t rfl (main _ _ (fun x h1 h2 h3 h4=>kx_ok (N:=N+3) (by omega) (by omega) h1 h2 h3 h4)))
end
end Gm

set_option maxRecDepth 100000
namespace Gm
open Go
theorem room0:decide ((([]:List Outp).length+([]:List Outp).length) * 48≤room)=true:=decide_eq_true (by decide)
set_option maxHeartbeats 1000000 in
theorem connect_ok {N:Nat} {c:Cluster} {i:Bool} (o:OkC N c) {K:CO->Prop} (k:K (connectC c i)):q150.F c (bI i) K:=by
 have oa:=o.a
 have ob:=o.b
 have u1:inK .u64 (IntKind.u64.wrap (c.link.session+1)):=(okC_open o).l.s
 unfold q150.F q150.FV
 rcases c with ⟨⟨i0,up0,st0,pr0,sa0,se0,pe0,pp0,rq0,as0,ai0,wa0,mi0,dr0,ms0⟩,⟨i1,up1,st1,pr1,sa1,se1,pe1,pp1,rq1,as1,ai1,wa1,mi1,dr1,ms1⟩,⟨lu,ls,t0,t1⟩,w0,w1⟩
 have b0:OkN N (beginN ⟨i0,true,st0,pr0,sa0,se0,pe0,pp0,rq0,as0,ai0,wa0,mi0,dr0,ms0⟩ (IntKind.u64.wrap (ls+1))).1:=okN_begin ⟨oa.st,oa.se,oa.pe,oa.rq,oa.dl,oa.dg,oa.ml,oa.wa⟩ u1
 have b1:OkN N (beginN ⟨i1,true,st1,pr1,sa1,se1,pe1,pp1,rq1,as1,ai1,wa1,mi1,dr1,ms1⟩ (IntKind.u64.wrap (ls+1))).1:=okN_begin ⟨ob.st,ob.se,ob.pe,ob.rq,ob.dl,ob.dg,ob.ml,ob.wa⟩ u1
 cases i
 ·refine cond_t rfl ?_
  cases up0
  ·cases up1 <;> exact k
  cases up1
  ·cases w1 <;> exact k
  cases w1
  ·exact k
  cases lu
  ·refine cond_t rfl (cond_t rfl (cond_f rfl (cond_f rfl (own_ok ?_))))
   refine send_ok (by exact b0.se) (by exact own_w b0) ?_
   refine lsend_ok (i:=true) rfl (by exact(show([]:List Str).length≤100000 from by decide)) (by simp) ?_
   refine cond_f rfl (own_ok ?_)
   refine send_ok (by exact b1.se) (by exact own_w b1) ?_
   refine cond_t rfl (lsend_ok (i:=false) rfl (by exact(show([]:List Str).length≤100000 from by decide)) (by simp) ?_)
   refine cond_f rfl (cond_t room0 ?_)
   exact k
  ·exact k
 ·refine cond_f rfl (cond_t rfl ?_)
  cases up1
  ·cases up0 <;> exact k
  cases up0
  ·cases w0 <;> exact k
  cases w0
  ·exact k
  cases lu
  ·refine cond_t rfl (cond_t rfl (cond_f rfl (cond_f rfl (own_ok ?_))))
   refine send_ok (by exact b0.se) (by exact own_w b0) ?_
   refine lsend_ok (i:=true) rfl (by exact(show([]:List Str).length≤100000 from by decide)) (by simp) ?_
   refine cond_f rfl (own_ok ?_)
   refine send_ok (by exact b1.se) (by exact own_w b1) ?_
   refine cond_t rfl (lsend_ok (i:=false) rfl (by exact(show([]:List Str).length≤100000 from by decide)) (by simp) ?_)
   refine cond_f rfl (cond_t room0 ?_)
   exact k
  ·exact k
def ninP (i:Bool) (c:Cluster) (K:CO->Prop):Prop:=
 bif((toC c.link i).length:Int)==0 then K (c,[])else oget (getI (toC c.link i) 0) fun v=>bif decide (0≤1)&&decide (1≤((toC c.link i).length:Int))then
  (bif decide ((sub (toC c.link i) (Int.toNat 1) (toC c.link i).length).length * 16≤room)then
    q184.F (nodeC c i) v fun r=>q149.F { c with link:=setTo c.link i (sub (toC c.link i) (Int.toNat 1) (toC c.link i).length) } (bI i) r.1 r.2 fun q=>K (q.1,q.2)else False)else False
def offP (c:Cluster) (K:CO->Prop):Prop:=bif !c.link.up then K (c,[])else endP0 c K
def doP (i:Bool) (c:Cluster) (e:Event) (K:CO->Prop) (P9:Prop):Prop:=
 bif e.kind==1 then(q127.F (nodeC c i) e.id fun r=>q149.F c (bI i) r.1 r.2 fun q=>K (q.1,q.2))else
 bif e.kind==2 then(q128.F (nodeC c i) e.id fun r=>q149.F c (bI i) r.1 r.2 fun q=>K (q.1,q.2))else
 bif e.kind==3 then(q129.F (nodeC c i) e.id fun r=>q149.F c (bI i) r.1 r.2 fun q=>K (q.1,q.2))else
 bif e.kind==4 then(q131.F (nodeC c i) e.id e.block fun r=>q149.F c (bI i) r.1 r.2 fun q=>K (q.1,q.2))else
 bif e.kind==5 then(q143.F (nodeC c i) e.id e.block e.data fun r=>q149.F c (bI i) r.1 r.2 fun q=>K (q.1,q.2))else
 bif e.kind==6 then(q150.F c (bI i) fun q=>K (q.1,q.2))else
 bif e.kind==7 then(bif e.kind==7 then offP (setW c i false) K else offP c K)else
 bif e.kind==8 then(bif e.kind==7 then offP (setW c i false) K else offP c K)else
 bif e.kind==9 then P9 else
 bif e.kind==10 then(bif !(nodeC c i).up then K (c,[])else q125.F (nodeC c i) fun r=>q149.F c (bI i) r [] fun q=>K (q.1,q.2))else
 bif e.kind==11 then(q44.F (nodeC c i) e.keeps fun r=>q108.F r.1 e.id r.2 [] fun q=>K (setN c i r.1,[q]))else
 bif e.kind==12 then(bif(nodeC c i).up then(q185.F (nodeC c i).store.disk (IntKind.i64.wrap (minI e.num 1000)) fun r=>q149.F c (bI i) (setSt (nodeC c i) ⟨r,(nodeC c i).store.sup,(nodeC c i).store.mask⟩) [] fun q=>K (q.1,q.2))else
  q149.F c (bI i) (nodeC c i) [] fun q=>K (q.1,q.2))else
 bif e.kind==13 then(bif decide (((nodeC c i).draws.length:Int) < 1000)then(bif decide ((nodeC c i).draws.length * 8≤room)then(bif decide (((nodeC c i).draws.length+([e.num]:List Int).length) * 8≤room)then
  K (setN c i { nodeC c i with draws:=(nodeC c i).draws++[e.num] },[])else False)else False)else K (c,[]))else
 bif e.kind==14 then(q154.F e.data c.link.session fun r=>bif r.2==0 then K (c,[])else q184.F (nodeC c i) e.data fun r=>q149.F c (bI i) r.1 r.2 fun q=>K (q.1,q.2))else
 K (c,[])
theorem setN_same (c:Cluster) (i:Bool):setN c i (nodeC c i)=c:=by cases i <;> rfl
theorem min_eq (x:Int):minI x 1000=min x 1000:=by
 unfold minI
 split <;> omega
section
variable {N:Nat} (hN:N≤5900) (h64:64≤N)
include hN h64
theorem off_ok {c:Cluster} (o:OkC N c) {K:CO->Prop} (k:K (if c.link.up=true then endC c [] else(c,[]))):offP c K:=by
 unfold offP
 refine cond_ok (fun h=>?_) (fun h=>?_)
 ·rw [if_neg (nt (not_t h))] at k;exact k
 ·rw [if_pos (not_f h)] at k
  exact endP_nil (end_ok (by omega) h64 o (by decide) k)
theorem nin_ok {c:Cluster} {i:Bool} (o:OkC N c) {K:CO->Prop} (k:K (match toC c.link i with
  | []=>(c,[])
  | b :: r=>afterC { c with link:=setTo c.link i r } i (receiveN (nodeC c i) b))):ninP i c K:=by
 unfold ninP
 have hto:=o.l.to i
 cases hq:toC c.link i with
 | nil=>
  rw [hq] at k
  exact cond_t rfl k
 | cons b r=>
  rw [hq] at k hto
  have e:sub (b :: r) (Int.toNat 1) (b :: r).length=r:=by
   unfold sub
   rw [List.take_length]
   rfl
  have hr:r.length≤N:=by have:=hto.1;simp at this;omega
  have o1:OkC N { c with link:=setTo c.link i r }:=⟨o.a,o.b,okL_to o.l i hr (fun x hx=>hto.2 x (List.mem_cons_of_mem _ hx))⟩
  refine cond_f (by rw [List.length_cons];exact beq_eq_false_iff_ne.2 (by omega)) (oget_ok (v:=b) rfl (gd_ok (by rw [List.length_cons];simp;omega) (gd_ok (fit_ok (by rw [e];omega)) ?_)))
  rw [e]
  have hb:=hto.2 b (by simp)
  refine receive_ok (by omega) h64 (o.node i) (by omega) ?_
  exact after_ok (N:=N+4) (by omega) (by omega) (o1.up (by omega)) (okN_receive (o.node i) h64) (okO_receive _ _) (by omega) k
omit hN h64 in
theorem kd {k v:Int} {α:Type} {a b:α} {K:α->Prop} {P Q:Prop} (h1:k=v->K a->P) (h2:k≠v->K b->Q) (h:K (if k=v then a else b)):bif k==v then P else Q:=by
 by_cases e:k=v
 ·rw [if_pos e] at h
  exact cond_t (beq_iff_eq.2 e) (h1 e h)
 ·rw [if_neg e] at h
  exact cond_f (beq_eq_false_iff_ne.2 e) (h2 e h)
theorem do_at {c:Cluster} {e:Event} {i:Bool} (o:OkC N c) (oe:OkE e) {K:CO->Prop} {P9:Prop} (p9:ninP i c K->P9) (k:K (doAt c e i)):doP i c e K P9:=by
 have on:=o.node i
 have aft:∀ {n:Node} {l:List Outp},OkN (N+4) n->OkO 3 l->K (afterC c i (n,l))->q149.F c (bI i) n l fun q=>K (q.1,q.2):=
  fun h1 h2 h3=>after_ok (N:=N+4) (by omega) (by omega) (o.up (by omega)) h1 h2 (by omega) h3
 unfold doP
 revert k
 unfold doAt
 refine kd (fun _ k=>promote_ok (by omega) h64 on (aft (okN_promote on h64) (okO_promote _ _) k)) fun _=>?_
 refine kd (fun _ k=>demote_ok (by omega) h64 on (aft (okN_demote on h64) (okO_demote _ _) k)) fun _=>?_
 refine kd (fun _ k=>discard_ok (by omega) h64 on (aft (okN_discard on h64) (okO_discard _ _) k)) fun _=>?_
 refine kd (fun _ k=>nread_ok (by omega) h64 on (aft (okN_read on) (okO_read _ _ _) k)) fun _=>?_
 refine kd (fun _ k=>write7_ok (by omega) h64 on (aft (okN_write on h64) (okO_write _ _ _ _) k)) fun _=>?_
 refine kd (fun _ k=>connect_ok o k) fun _=>?_
 have he:∀ (a b:CO),e.kind≠7->e.kind≠8->(if e.kind=7∨e.kind=8 then a else b)=b:=fun a b h1 h2=>if_neg (by simp [h1,h2])
 by_cases h7:e.kind=7
 ·intro k
  rw [if_pos (Or.inl h7)] at k
  rw [if_pos h7] at k
  exact cond_t (beq_iff_eq.2 h7) (cond_t (beq_iff_eq.2 h7) (off_ok hN h64 (okC_want o i false) k))
 refine fun k=>cond_f (beq_eq_false_iff_ne.2 h7) ?_
 by_cases h8:e.kind=8
 ·rw [if_pos (Or.inr h8),if_neg h7] at k
  exact cond_t (beq_iff_eq.2 h8) (cond_f (beq_eq_false_iff_ne.2 h7) (off_ok hN h64 o k))
 rw [he _ _ h7 h8] at k
 refine cond_f (beq_eq_false_iff_ne.2 h8) ?_
 revert k
 refine kd (fun _ k=>p9 (nin_ok hN h64 o k)) fun _=>?_
 refine kd (fun _ k=>?_) fun _=>?_
 ·refine cond_ok (fun h=>?_) (fun h=>?_)
  ·rw [if_neg (nt (not_t h))] at k;exact k
  ·rw [if_pos (not_f h)] at k
   exact down_ok (aft ((okN_down on).up (by omega)) (okO_nil 3) k)
 refine kd (fun _ k=>attach_ok (by omega) h64 on (reply_ok k)) fun _=>?_
 refine kd (fun _ k=>?_) fun _=>?_
 ·have hw:IntKind.i64.wrap (minI e.num 1000)=min e.num 1000:=by
   have h0:(0:Int)≤e.num:=oe.n.1
   rw [min_eq]
   exact wrap_i64 ⟨by omega,by omega⟩
  have h0:(0:Int)≤e.num:=oe.n.1
  refine cond_ok (fun h=>?_) (fun h=>?_)
  ·rw [if_pos h] at k
   rw [hw]
   exact ref04_Arm_ok (aft ((okN_arm on (by omega) (by omega)).up (by omega)) (okO_nil 3) k)
  ·rw [if_neg (nt h)] at k
   exact aft (on.up (by omega)) (okO_nil 3) k
 refine kd (fun _ k=>?_) fun _=>?_
 ·have hd:=on.dl
  refine cond_ok (fun h=>?_) (fun h=>?_)
  ·have h:=of_decide_eq_true h
   rw [if_pos (by omega)] at k
   exact gd_ok (fit_ok (by omega)) (gd_ok (fit_ok (by simp;omega)) k)
  ·have h:=of_decide_eq_false h
   rw [if_neg (by omega),setN_same] at k
   exact k
 refine kd (fun _ k=>?_) fun _=>?_
 ·have hd:=oe.d
  refine ref13_Read_ok (by omega) (cond_ok (fun h=>?_) (fun h=>?_))
  ·rw [if_pos (eq_t h)] at k;exact k
  ·rw [if_neg (eq_f h)] at k
   exact receive_ok (by omega) h64 on (by omega) (aft (okN_receive on h64) (okO_receive _ _) k)
 exact fun k=>k
theorem Do_ok {c:Cluster} {e:Event} (o:OkC N c) (oe:OkE e) {K:CO->Prop} (k:K (doC c e)):q186.F c e K:=by
 unfold q186.F q186.FV
 revert k
 unfold doC
 refine kd (fun _ k=>?_) fun _=>kd (fun _ k=>?_) fun _ k=>k
 ·refine do_at hN h64 o oe ?_ k
  exact fun h=>cond_t (by decide) h
 ·refine do_at hN h64 o oe ?_ k
  exact fun h=>cond_f (by decide) (cond_t (by decide) h)
end
end Gm

set_option maxRecDepth 100000
namespace Gm
open Go
theorem okO_end {c:Cluster} {out:List Outp} {a:Nat} (h:out.length≤a):(endC c out).2.length≤a+6:=by
 have h1:∀ (c:CO) (i:Bool),(loseC c i).2.length≤c.2.length+3:=by
  intro c i
  unfold loseC
  split
  ·omega
  ·dsimp only
   have:=(okO_lose (nodeC c.1 i)).1
   rw [List.length_append]
   omega
 have e1:=h1 ({ c with link:=closeL c.link },out) false
 have e2:=h1 (loseC ({ c with link:=closeL c.link },out) false) true
 unfold endC
 dsimp only at e1
 omega
theorem okO_after {c:Cluster} {i:Bool} {r:NO} (h:OkO 3 r.2):(afterC c i r).2.length≤9:=by
 have:=List.length_filter_le (fun o:Outp=>!(o.kind==1)) r.2
 have h3:=h.1
 unfold afterC
 dsimp only
 generalize (if r.1.up=false then setW (putC (setN c i r.1) i r.2) i false else putC (setN c i r.1) i r.2)=c2
 split
 ·dsimp only;omega
 ·exact okO_end (a:=3) (by omega)
theorem okO_do {c:Cluster} {e:Event}:(doC c e).2.length≤18:=by
 have at_:∀ i,(doAt c e i).2.length≤18:=by
  intro i
  unfold doAt
  refine ite_of (P:=fun r:CO=>r.2.length≤18) (fun _=>?_) (fun _=>?_)
  ·exact Nat.le_trans (okO_after (okO_promote _ _)) (by decide)
  refine ite_of (P:=fun r:CO=>r.2.length≤18) (fun _=>?_) (fun _=>?_)
  ·exact Nat.le_trans (okO_after (okO_demote _ _)) (by decide)
  refine ite_of (P:=fun r:CO=>r.2.length≤18) (fun _=>?_) (fun _=>?_)
  ·exact Nat.le_trans (okO_after (okO_discard _ _)) (by decide)
  refine ite_of (P:=fun r:CO=>r.2.length≤18) (fun _=>?_) (fun _=>?_)
  ·exact Nat.le_trans (okO_after (okO_read _ _ _)) (by decide)
  refine ite_of (P:=fun r:CO=>r.2.length≤18) (fun _=>?_) (fun _=>?_)
  ·exact Nat.le_trans (okO_after (okO_write _ _ _ _)) (by decide)
  refine ite_of (P:=fun r:CO=>r.2.length≤18) (fun _=>?_) (fun _=>?_)
  ·unfold connectC
   split
   ·exact Nat.zero_le _
   dsimp only
   split
   ·exact Nat.zero_le _
   ·dsimp only
    rw [List.length_append]
    exact Nat.add_le_add (b:=9) (d:=9) (okO_after (okO_begin _ _)) (okO_after (okO_begin _ _))
  refine ite_of (P:=fun r:CO=>r.2.length≤18) (fun _=>?_) (fun _=>?_)
  ·generalize (if e.kind=7 then setW c i false else c)=c1
   split
   ·exact Nat.le_trans (okO_end (a:=0) (Nat.le_refl _)) (by decide)
   ·exact Nat.zero_le _
  refine ite_of (P:=fun r:CO=>r.2.length≤18) (fun _=>?_) (fun _=>?_)
  ·split
   ·exact Nat.zero_le _
   ·exact Nat.le_trans (okO_after (okO_receive _ _)) (by decide)
  refine ite_of (P:=fun r:CO=>r.2.length≤18) (fun _=>?_) (fun _=>?_)
  ·split
   ·exact Nat.le_trans (okO_after (okO_nil 3)) (by decide)
   ·exact Nat.zero_le _
  refine ite_of (P:=fun r:CO=>r.2.length≤18) (fun _=>?_) (fun _=>?_)
  ·exact(by decide:1≤18)
  refine ite_of (P:=fun r:CO=>r.2.length≤18) (fun _=>?_) (fun _=>?_)
  ·exact Nat.le_trans (okO_after (okO_nil 3)) (by decide)
  refine ite_of (P:=fun r:CO=>r.2.length≤18) (fun _=>?_) (fun _=>?_)
  ·exact Nat.zero_le _
  refine ite_of (P:=fun r:CO=>r.2.length≤18) (fun _=>?_) (fun _=>?_)
  ·split
   ·exact Nat.zero_le _
   ·exact Nat.le_trans (okO_after (okO_receive _ _)) (by decide)
  ·exact Nat.zero_le _
 unfold doC
 split
 ·exact at_ false
 split
 ·exact at_ true
 ·exact Nat.zero_le _
theorem play_app (c:Cluster):∀ (a b:List Event),playC c (a++b)=playC (playC c a) b
 | [],_=>rfl
 | e :: a,b=>play_app (doC c e).1 a b
theorem Play_ok {N:Nat} {c:Cluster} {l:List Event} (o:OkC N c) (h64:64≤N) (hl:N+30 * l.length≤5900) (he:∀ e∈l,OkE e) {K:CO->Prop} (k:∀ out,K (playC c l,out)):q187.F c l K:=by
 unfold q187.F q187.FV
 have hN:l.length≤200:=by omega
 refine loop_ok (I:=fun x:q187.L0=>∃ j:Nat,j≤l.length∧x.l=l∧x.i=(j:Int)∧x.m0=playC c (l.take j)∧x.out.length≤18 * j)
  (m:=fun x:q187.L0=>l.length - x.i.toNat) ?_ ⟨0,by omega,rfl,rfl,rfl,Nat.le_refl _⟩
 rintro ⟨l',out,i,m0,m1⟩ ⟨j,hj,h1,h2,h3,h4⟩ rec hrec
 dsimp only at h1 h2 h3 h4
 subst h1
 subst h2
 subst h3
 unfold q187.b0V
 dsimp only
 refine cond_ok (fun h=>?_) (fun h=>?_)
 ·have hlt:=lt_of_dec h
  have hw:IntKind.i64.wrap ((j:Int)+1)=((j+1:Nat):Int):=wrap_lt hlt (by unfold big;omega)
  have hm:l'.length - ((j+1:Nat):Int).toNat < l'.length - ((j:Nat):Int).toNat:=by omega
  have oj:OkC (N+30 * j) (playC c (l'.take j)):=by
   have:=okC_play (l:=l'.take j) o h64 (fun e h=>he e (List.mem_of_mem_take h))
   exact this.up (by rw [List.length_take];omega)
  have ho:=okO_do (c:=playC c (l'.take j)) (e:=l'[j])
  refine oget_ok (getI_ok hlt) (Do_ok (by omega) (by omega) oj (he _ (List.getElem_mem hlt)) ?_)
  refine gd_ok (out_ok (by omega)) ?_
  rw [hw]
  refine hrec _ ⟨j+1,hlt,rfl,rfl,?_,?_⟩ hm
  ·rw [take_succ hlt,play_app]
   rfl
  ·dsimp only
   rw [List.length_append]
   omega
 ·have e:=le_of_dec h hj
  subst e
  rw [List.take_length]
  exact k _
theorem okN_raw {N:Nat} {i:Int} {d:Disk} (o:OkD N d):OkN N ⟨i,false,⟨d,zS,0⟩,false,0,0,zeroH,false,zR,false,0,0,false,[],[]⟩:=
 ⟨⟨o,i64_0,wZV,inK_u32 (by decide)⟩,u64_0,wZH,Nat.zero_le _,Nat.zero_le _,fun g h=>(by cases h),Nat.zero_le _,i64_0⟩
theorem fmt_okD {b:Int} {g:Nat}:OkD 64 (fmtV b g).1:=by
 unfold fmtV
 split
 ·rename_i h
  refine bare_okD ?_ ?_
  ·unfold fmtS
   simp only [List.length_cons,List.length_replicate]
   omega
  ·intro x hx
   unfold fmtS at hx
   rcases List.mem_cons.1 hx with rfl | hx
   ·rw [sealV_length,sB_length];decide
   rcases List.mem_cons.1 hx with rfl | hx
   ·rw [sealV_length,be_length];decide
   ·rw [(List.mem_replicate.1 hx).2];decide
 ·exact bare_okD (s:=[]) (by decide) (fun x h=>by cases h)
theorem New_ok {b:Int} {g:Nat} (hg:g < 18446744073709551616) {K:(Cluster×Int)->Prop} (k:K (newC b g)):q45.F b g K:=by
 unfold q45.F q45.FV
 unfold newC at k
 by_cases h:(fmtV b g).2≠0
 ·rw [if_pos h] at k
  refine⟨1,round1 ?_⟩
  refine cond_t rfl (ref09_Format_ok hg (cond_t (by simpa using h) k))
 ·rw [if_neg h] at k
  have h:((fmtV b g).2 != 0)=false:=by simpa using h
  refine⟨3,round1 ?_⟩
  refine cond_t rfl (ref09_Format_ok hg (cond_f h ?_))
  refine attach_ok (N:=64) (by omega) (by omega) (okN_raw fmt_okD) ?_
  refine cond_t rfl (round1 ?_)
  refine cond_t rfl (ref09_Format_ok hg (cond_f h ?_))
  refine attach_ok (N:=64) (by omega) (by omega) (okN_raw fmt_okD) ?_
  refine cond_f rfl (cond_t rfl (round1 ?_))
  refine cond_f rfl ?_
  exact k
theorem okC_new {b:Int} {g:Nat}:OkC 64 (newC b g).1:=by
 have hz:OkN 64 zN:=okN_raw (d:=noD) (bare_okD (s:=[]) (by decide) (fun x h=>by cases h))
 have hl:OkL 64 zL:=⟨u64_0,Nat.zero_le _,Nat.zero_le _,fun x h=>(by cases h),fun x h=>(by cases h)⟩
 unfold newC
 split
 ·exact⟨hz,hz,hl⟩
 ·exact⟨okN_attach (okN_raw fmt_okD),okN_attach (okN_raw fmt_okD),hl⟩
theorem okC_reach {b:Int} {l:List Event} (he:∀ e∈l,OkE e):OkC (64+30 * l.length) (reachC b l):=okC_play okC_new (by omega) he
theorem Reach_ok {b:Int} {l:List Event} (h0:0≤b) (hl:l.length≤100) (he:∀ e∈l,OkE e) {K:Cluster->Prop} (k:K (reachC b l)):q188.F b l K:=by
 unfold q188.F q188.FV
 have e:IntKind.i64.wrap (1+IntKind.i64.wrap (b.tmod 4))=1+b % 4:=by
  rw [Int.tmod_eq_emod_of_nonneg h0,wrap_i64 (x:=b % 4) (by omega),wrap_i64 (by omega)]
 refine cond_f rfl ?_
 show q45.F _ 7 _
 rw [e]
 refine New_ok (g:=7) (by decide) ?_
 exact Play_ok okC_new (by omega) (by omega) he (fun out=>k)
end Gm

set_option maxRecDepth 100000
namespace Gm
open Go
theorem nodeDown_ok {n:Node} {K:Node->Prop} (k:K (downN n)):q78.F n K:=k
theorem eq0 {a:Int} (h:a=0):(a==0)=true:=beq_iff_eq.2 h
theorem ne0 {a:Int} (h:a≠0):(a==0)=false:=beq_eq_false_iff_ne.2 h
section
variable {N:Nat} {n:Node} (hN:N≤7000) (h64:64≤N) (o:OkN N n)
include hN h64 o
end
end Gm

set_option maxRecDepth 100000
namespace Gm
open Go
theorem out1 {o:Outp}:decide (([o]:List Outp).length * 48≤room)=true:=out_ok (by simp)
section
variable {N:Nat} {n:Node} (hN:N≤6900) (h64:64≤N) (o:OkN N n)
include hN h64 o
end
end Gm

set_option maxRecDepth 100000
namespace Gm
open Go
theorem Great_ok {l:List Event} {most:Nat} (hm:most≤1000) {K:Bool->Prop} (kt:K true) (kf:l.length≤most->(∀ e∈l,e.data.length≤300∧e.keeps.length≤100)->K false):q106.F l most K:=by
 unfold q106.F
 refine cond_ok (fun h=>kt) (fun h=>?_)
 have h:=of_decide_eq_false h
 have hl:l.length≤most:=by omega
 refine loop_ok (I:=fun x:q106.L0=>∃ j:Nat,j≤l.length∧x=⟨l,j⟩∧∀ e∈l.take j,e.data.length≤300∧e.keeps.length≤100)
  (m:=fun x:q106.L0=>l.length - x.i.toNat) ?_ ⟨0,by omega,rfl,fun e h=>(by cases h)⟩
 rintro _ ⟨j,hj,rfl,he⟩ rec hrec
 unfold q106.b0
 dsimp only
 refine cond_ok (fun h1=>?_) (fun h1=>?_)
 ·have hlt:=lt_of_dec h1
  have hw:IntKind.i64.wrap ((j:Int)+1)=((j+1:Nat):Int):=wrap_lt hlt (by unfold big;omega)
  refine oget_ok (getI_ok hlt) (cond_ok (fun h2=>kt) (fun h2=>?_))
  refine oget_ok (getI_ok hlt) (cond_ok (fun h3=>kt) (fun h3=>?_))
  have h2:=of_decide_eq_false h2
  have h3:=of_decide_eq_false h3
  rw [hw]
  refine hrec _ ⟨j+1,hlt,rfl,fun e hm=>?_⟩ (by dsimp only;omega)
  rw [take_succ hlt] at hm
  rcases List.mem_append.1 hm with hm | hm
  ·exact he e hm
  ·rw [List.mem_singleton.1 hm]
   omega
 ·have e:=le_of_dec h1 hj
  subst e
  rw [List.take_length] at he
  exact kf hl he
def zO:Outp:=⟨0,0,0,0,[]⟩
def h0 (l:List Outp):Outp:=(getI l 0).getD zO
end Gm

set_option maxRecDepth 100000
namespace Gm
open Go
theorem inK_pos {x:Int} (h:inK .u8 x):0≤x:=h.1
theorem okE_of {e:Event} (hn:inK .u64 e.num) (h:e.data.length≤300∧e.keeps.length≤100):OkE e:=⟨hn,h.1,h.2⟩
end Gm

set_option maxRecDepth 100000
namespace Gm
open Go
theorem sBytes_length (s:Super):(sBytes s).length=37:=by
 unfold sBytes
 simp [be_length]
theorem sOf_sBytes0 {s:Super} (hw:wSup s) (hr:1≤s.blocks∧s.blocks≤32):sOfBytes (sBytes s)=s∧((sBytes s).getD 4 0).toNat≤7:=by
 obtain ⟨blocks,⟨c,b,o0,o1⟩,inc,pri,dis⟩:=s
 obtain ⟨hb,hc,h0,h1,h2⟩:=hw
 have hc:0≤c∧c≤18446744073709551615:=hc
 have h0:0≤b∧b≤18446744073709551615:=h0
 have h1:0≤o0∧o0≤18446744073709551615:=h1
 have h2:0≤o1∧o1≤18446744073709551615:=h2
 dsimp only at hr
 have p8:(256:Nat) ^ 8=18446744073709551616:=by decide
 have key:∀ (x:Int) (k:Nat),0≤x->x.toNat < 256 ^ k->((unbe (be x.toNat k):Nat):Int)=x:=by
  intro x k h1 h2
  rw [unbe_be,Nat.mod_eq_of_lt h2];omega
 have hfv:fv [inc,pri,dis] < 8:=fv_lt [inc,pri,dis]
 unfold sBytes
 dsimp only
 generalize e1:be c.toNat 8=s1
 generalize e2:be b.toNat 8=s2
 generalize e3:be o0.toNat 8=s3
 generalize e4:be o1.toNat 8=s4
 have l1:s1.length=8:=by rw [← e1,be_length]
 have l2:s2.length=8:=by rw [← e2,be_length]
 have l3:s3.length=8:=by rw [← e3,be_length]
 have l4:s4.length=8:=by rw [← e4,be_length]
 have pick:∀ (p q r:Str) (i j:Nat),p.length=i->q.length=j - i->i≤j->sub (p++q++r) i j=q:=by
  intro p q r i j h1 h2 h3
  subst h1
  unfold sub
  rw [List.take_append_of_le_length (by simp;omega),List.take_of_length_le (by simp;omega)]
  simp
 generalize e0:[71,77,1]++[UInt8.ofNat blocks.toNat,UInt8.ofNat (fv [inc,pri,dis])]=hd
 have l0:hd.length=5:=by rw [← e0];rfl
 have q1:sub (hd++s1++s2++s3++s4) 5 13=s1:=by
  have:=pick hd s1 (s2++s3++s4) 5 13 l0 l1 (by decide)
  simpa [List.append_assoc] using this
 have q2:sub (hd++s1++s2++s3++s4) 13 21=s2:=by
  have:=pick (hd++s1) s2 (s3++s4) 13 21 (by simp [l0,l1]) l2 (by decide)
  simpa [List.append_assoc] using this
 have q3:sub (hd++s1++s2++s3++s4) 21 29=s3:=by
  have:=pick (hd++s1++s2) s3 s4 21 29 (by simp [l0,l1,l2]) l3 (by decide)
  simpa [List.append_assoc] using this
 have q4:sub (hd++s1++s2++s3++s4) 29 37=s4:=by
  have:=pick (hd++s1++s2++s3) s4 [] 29 37 (by simp [l0,l1,l2,l3]) l4 (by decide)
  simpa [List.append_assoc] using this
 have q6:(hd++s1++s2++s3++s4).getD 3 0=UInt8.ofNat blocks.toNat:=by rw [← e0];rfl
 have q7:(hd++s1++s2++s3++s4).getD 4 0=UInt8.ofNat (fv [inc,pri,dis]):=by rw [← e0];rfl
 have q8:(UInt8.ofNat (fv [inc,pri,dis])).toNat=fv [inc,pri,dis]:=by rw [toNat_ofNat];omega
 refine⟨?_,by rw [q7,q8];omega⟩
 unfold sOfBytes numAt
 rw [q1,q2,q3,q4,q6,q7,← e1,← e2,← e3,← e4,key c 8 hc.1 (by omega),key b 8 h0.1 (by omega),key o0 8 h1.1 (by omega),key o1 8 h2.1 (by omega)]
 have eb:((UInt8.ofNat blocks.toNat).toNat:Int)=blocks:=by rw [toNat_ofNat];omega
 rw [eb]
 unfold bit
 rw [q8]
 cases inc <;> cases pri <;> cases dis <;> rfl
theorem sOf_sBytes {s:Super} (hw:wSup s) (hr:supR s=true):sOfBytes (sBytes s)=s∧((sBytes s).getD 4 0).toNat≤7:=by
 unfold supR at hr
 exact sOf_sBytes0 hw (of_decide_eq_true (Bool.and_eq_true_iff.1 hr).1)
theorem decS6_seal {s:Super} (hw:wSup s) (hr:supR s=true):decS6 (sealV (sBytes s))=(s,0):=by
 obtain ⟨h1,h2⟩:=sOf_sBytes hw hr
 unfold decS6
 rw [openV_seal]
 dsimp only
 rw [if_neg (by simp),h1,if_pos ⟨sBytes_length s,h2,hr,rfl⟩]
def Val (d:Disk) (x:Nat) (P:Str->Prop):Prop:=(∀ y,d.sure[x]? = some y->P y)∧∀ w∈d.cache,w.sector=(x:Int)->P w.data
theorem Val.imp {d:Disk} {x:Nat} {P Q:Str->Prop} (h:Val d x P) (f:∀ y,P y->Q y):Val d x Q:=⟨fun y e=>f y (h.1 y e),fun w m e=>f _ (h.2 w m e)⟩
theorem val_settle {x:Nat} {P:Str->Prop}:∀ (ws:List Write) (s:List Str),(∀ y,s[x]? = some y->P y)->(∀ w∈ws,0≤w.sector∧(w.sector=(x:Int)->P w.data))->∀ y,(settleV s ws)[x]? = some y->P y
 | [],_,h,_=>h
 | w :: ws,s,h,hw=>by
  unfold settleV
  rw [List.foldl_cons]
  refine val_settle ws _ ?_ (fun v m=>hw v (List.mem_cons_of_mem _ m))
  intro y hy
  rw [List.getElem?_set] at hy
  have h2:=hw w (by simp)
  by_cases e:w.sector.toNat=x
  ·rw [if_pos e] at hy
   split at hy
   ·cases hy
    exact h2.2 (by omega)
   ·cases hy
  ·rw [if_neg e] at hy
   exact h y hy
def Sec (d:Disk):Prop:=∀ w∈d.cache,0≤w.sector∧w.sector < (d.sure.length:Int)
theorem val_flushed {d:Disk} {x:Nat} {P:Str->Prop} (hs:Sec d) (h:Val d x P) {f:Int} {b:Bool}:Val ⟨settleV d.sure d.cache,[],f,b⟩ x P:=
 ⟨val_settle d.cache d.sure h.1 (fun w m=>⟨(hs w m).1,h.2 w m⟩),fun w m=>by cases m⟩
theorem sec_flushed {d:Disk} {f:Int} {b:Bool}:Sec ⟨settleV d.sure d.cache,[],f,b⟩:=fun w m=>by cases m
theorem val_write {d:Disk} {i:Int} {data:Str} {x:Nat} {P:Str->Prop} (h:Val d x P) (hp:i=(x:Int)->P data):Val (writeV d i data).1 x P:=by
 have app:∀ (f:Int) (b:Bool),Val ⟨d.sure,d.cache++[⟨i,data⟩],f,b⟩ x P:=by
  intro f b
  refine⟨h.1,fun w m e=>?_⟩
  rcases List.mem_append.1 m with m | m
  ·exact h.2 w m e
  ·cases List.mem_singleton.1 m
   exact hp e
 unfold writeV
 repeat' split
 all_goals first
  | exact h
  | exact app _ _
theorem sec_write {d:Disk} {i:Int} {data:Str} (h:Sec d):Sec (writeV d i data).1:=by
 have app:∀ (f:Int) (b:Bool),(0≤i∧i < d.sure.length)->Sec ⟨d.sure,d.cache++[⟨i,data⟩],f,b⟩:=by
  intro f b hi w m
  rcases List.mem_append.1 m with m | m
  ·exact h w m
  ·cases List.mem_singleton.1 m
   exact hi
 unfold writeV
 split
 ·exact h
 split
 ·exact h
 rename_i hi
 have hi:=Decidable.not_not.1 hi
 repeat' split
 all_goals first
  | exact h
  | exact app _ _ hi
theorem val_flush {d:Disk} {x:Nat} {P:Str->Prop} (hs:Sec d) (h:Val d x P):Val (flushV d).1 x P:=by
 unfold flushV
 repeat' split
 all_goals first
  | exact h
  | exact val_flushed hs h
theorem sec_flush {d:Disk} (hs:Sec d):Sec (flushV d).1:=by
 unfold flushV
 repeat' split
 all_goals first
  | exact hs
  | exact sec_flushed
theorem val_revive {d:Disk} {x:Nat} {P:Str->Prop} (hs:Sec d) (h:Val d x P) (keeps:List Bool):Val (reviveV d keeps) x P:=
 ⟨val_settle _ d.sure h.1 (fun w m=>have q:=kept_sub d.cache keeps w m;⟨(hs w q).1,h.2 w q⟩),fun w m=>by cases m⟩
theorem len_write {d:Disk} {i:Int} {data:Str}:(writeV d i data).1.sure.length=d.sure.length:=by
 unfold writeV
 repeat' split
 all_goals rfl
theorem len_flush {d:Disk}:(flushV d).1.sure.length=d.sure.length:=by
 unfold flushV
 repeat' split
 all_goals first
  | rfl
  | exact settleV_length _ _
def SGood (B:Int) (x:Nat) (data:Str):Prop:=
 (x=0->∃ s:Super,data=sealV (sBytes s)∧s.blocks=B∧supR s=true∧wSup s)∧(x=1->∃ m:Nat,data=sealV (be m 4)∧maskR m B=true)∧(2≤x->data.length=8)
structure DW (B:Int) (d:Disk):Prop where
 len:(d.sure.length:Int)=B+2
 one:1≤B∧B≤32
 sec:Sec d
 val:∀ x,Val d x (SGood B x)
theorem dw_crash {B:Int} {d:Disk} (h:DW B d):DW B (crashV d):=⟨h.len,h.one,h.sec,h.val⟩
theorem dw_arm {B k:Int} {d:Disk} (h:DW B d):DW B (armV d k):=⟨h.len,h.one,h.sec,h.val⟩
theorem dw_flush {B:Int} {d:Disk} (h:DW B d):DW B (flushV d).1:=⟨by rw [len_flush];exact h.len,h.one,sec_flush h.sec,fun x=>val_flush h.sec (h.val x)⟩
theorem dw_write {B:Int} {d:Disk} {i:Nat} {data:Str} (h:DW B d) (g:SGood B i data):DW B (writeV d i data).1:=
 ⟨by rw [len_write];exact h.len,h.one,sec_write h.sec,fun x=>val_write (h.val x) (fun e=>by
   have:i=x:=by omega
   subst this
   exact g)⟩
theorem dw_revive {B:Int} {d:Disk} (h:DW B d) (keeps:List Bool):DW B (reviveV d keeps):=
 ⟨by show((settleV _ _).length:Int)=_;rw [settleV_length];exact h.len,h.one,fun w m=>(by cases m),fun x=>val_revive h.sec (h.val x) keeps⟩
theorem read_sec {d:Disk} {x:Nat} (hd:d.dead=false) (hx:x < d.sure.length) (hc:∀ w∈d.cache,w.sector≠(x:Int)):readV d x=(d.sure[x],0):=by
 unfold readV
 rw [if_neg (by rw [hd];simp),if_pos ⟨by omega,by omega⟩,holds_none hc,Int.toNat_natCast,List.getD_eq_getElem?_getD,List.getElem?_eq_getElem hx]
 rfl
end Gm

set_option maxRecDepth 100000
namespace Gm
open Go
def MOk (m:Nat) (data:Str):Prop:=∃ m':Nat,data=sealV (be m' 4)∧m' < 2 ^ 32∧∀ k,m.testBit k=true->m'.testBit k=true
structure UpS (B:Int) (s:Store):Prop where
 dw:DW B s.disk
 dead:s.disk.dead=false
 bl:s.sup.blocks=B
 one:∀ w∈s.disk.cache,w.sector=1
 mv:Val s.disk 1 (MOk s.mask.toNat)
 sb:Val s.disk 0 (fun y=>y=sealV (sBytes s.sup))
 mb:maskR s.mask.toNat B=true
def SR (B:Int) (r:Store×Int):Prop:=DW B r.1.disk∧(r.2=0->UpS B r.1)
theorem write_okv {d:Disk} {i:Int} {data:Str} (h:(writeV d i data).2=0):∃ f,(writeV d i data).1=⟨d.sure,d.cache++[⟨i,data⟩],f,false⟩:=by
 unfold writeV at h ⊢
 split
 ·rename_i c;rw [if_pos c] at h;cases h
 rename_i c;rw [if_neg c] at h
 split
 ·rename_i c;rw [if_pos c] at h;cases h
 rename_i c;rw [if_neg c] at h
 split
 ·rename_i c;rw [if_pos c] at h;cases h
 rename_i c;rw [if_neg c] at h
 split
 ·exact⟨0,rfl⟩
 rename_i c;rw [if_neg c] at h
 split
 ·rename_i c;rw [if_pos c] at h;cases h
 ·exact⟨_,rfl⟩
theorem flush_okv {d:Disk} (h:(flushV d).2=0):∃ f,(flushV d).1=⟨settleV d.sure d.cache,[],f,false⟩:=by
 unfold flushV at h ⊢
 split
 ·rename_i c;rw [if_pos c] at h;cases h
 rename_i c;rw [if_neg c] at h
 split
 ·exact⟨0,rfl⟩
 rename_i c;rw [if_neg c] at h
 split
 ·rename_i c;rw [if_pos c] at h;cases h
 ·exact⟨_,rfl⟩
theorem fits_eq {B:Int} {d:Disk} {b:Super} (h:DW B d) (hf:fitsS d b=true):b.blocks=B:=by
 have:=eq_t hf
 have:=h.len
 omega
theorem good_sup {B:Int} {b:Super} (hb:b.blocks=B) (hr:supR b=true) (w:wSup b):SGood B 0 (sealV (sBytes b)):=
 ⟨fun _=>⟨b,rfl,hb,hr,w⟩,fun h=>(by cases h),fun h=>(by omega)⟩
theorem good_mask {B:Int} {m:Nat} (h:maskR m B=true):SGood B 1 (sealV (be m 4)):=⟨fun h=>(by cases h),fun _=>⟨m,rfl,h⟩,fun h=>(by omega)⟩
theorem good_data {B:Int} {x:Nat} {data:Str} (hx:2≤x) (h:data.length=8):SGood B x data:=⟨fun h=>(by omega),fun h=>(by omega),fun _=>h⟩
theorem settle_snoc (s:List Str) (ws:List Write) (w:Write):settleV s (ws++[w])=(settleV s ws).set w.sector.toNat w.data:=by
 unfold settleV
 rw [List.foldl_append]
 rfl
theorem val_last {d:Disk} {x:Nat} {data:Str} {f:Int} {b:Bool}:Val ⟨settleV d.sure (d.cache++[⟨(x:Int),data⟩]),[],f,b⟩ x (fun y=>y=data):=by
 refine⟨fun y hy=>?_,fun w m=>by cases m⟩
 have hy:(settleV d.sure (d.cache++[⟨(x:Int),data⟩]))[x]? = some y:=hy
 rw [settle_snoc,List.getElem?_set] at hy
 dsimp only at hy
 rw [Int.toNat_natCast,if_pos rfl] at hy
 split at hy
 ·cases hy;rfl
 ·cases hy
theorem sr_commit {B:Int} {s:Store} {b:Super} (h:UpS B s) (w:wSup b):SR B (stCommit s b):=by
 unfold stCommit
 split
 ·exact⟨h.dw,fun _=>h⟩
 have hc:DW B (commitD s.disk b).1∧((commitD s.disk b).2=0->∃ f,b.blocks=B∧(commitD s.disk b).1=⟨settleV s.disk.sure (s.disk.cache++[⟨0,sealV (sBytes b)⟩]),[],f,false⟩):=by
  unfold commitD
  split
  ·rename_i c
   have hB:=fits_eq h.dw c.2
   have dw:=dw_write (i:=0) h.dw (good_sup hB c.1 w)
   split
   ·rename_i e
    exact⟨dw,fun e2=>(e e2).elim⟩
   ·rename_i e
    refine⟨dw_flush dw,fun e2=>?_⟩
    obtain ⟨f1,h1⟩:=write_okv (Decidable.not_not.1 e)
    obtain ⟨f2,h2⟩:=flush_okv e2
    rw [h1] at h2
    exact⟨f2,hB,by rw [h1];exact h2⟩
  ·exact⟨h.dw,fun e=>by cases e⟩
 refine⟨hc.1,fun e=>?_⟩
 have e:(commitD s.disk b).2=0:=e
 obtain ⟨f,hB,hd⟩:=hc.2 e
 have sec2:Sec ⟨s.disk.sure,s.disk.cache++[⟨0,sealV (sBytes b)⟩],f,false⟩:=by
  intro w m
  rcases List.mem_append.1 m with m | m
  ·exact h.dw.sec w m
  ·cases List.mem_singleton.1 m
   have:=h.dw.len
   have:=h.dw.one
   exact⟨Int.le_refl 0,by show(0:Int) < (s.disk.sure.length:Int);omega⟩
 refine⟨hc.1,by show(commitD s.disk b).1.dead=false;rw [hd],?_,?_,?_,?_,h.mb⟩
 ·show(if (commitD s.disk b).2=0 then b else s.sup).blocks=B
  rw [if_pos e];exact hB
 ·show ∀ w∈(commitD s.disk b).1.cache,w.sector=1
  rw [hd]
  intro w m;cases m
 ·show Val (commitD s.disk b).1 1 (MOk s.mask.toNat)
  rw [hd]
  refine val_flushed (d:=⟨s.disk.sure,s.disk.cache++[⟨0,sealV (sBytes b)⟩],f,false⟩) sec2 ⟨h.mv.1,fun w m e=>?_⟩
  rcases List.mem_append.1 m with m | m
  ·exact h.mv.2 w m e
  ·cases List.mem_singleton.1 m
   cases e
 ·show Val (commitD s.disk b).1 0 (fun y=>y=sealV (sBytes (if (commitD s.disk b).2=0 then b else s.sup)))
  rw [if_pos e,hd]
  exact val_last (d:=s.disk) (x:=0)
theorem note_dw {B:Int} {d:Disk} {m:Nat} (h:DW B d):DW B (noteV d m).1:=by
 unfold noteV
 split
 ·rename_i c
  have e:(d.sure.length:Int) - 2=B:=by have:=h.len;omega
  rw [e] at c
  exact dw_write (i:=1) h (good_mask c)
 ·exact h
theorem note_right {d:Disk} {m:Nat} (h:(noteV d m).2=0):maskR m ((d.sure.length:Int) - 2)=true:=by
 unfold noteV at h
 split at h
 ·rename_i c;exact c
 ·cases h
theorem note_okv {d:Disk} {m:Nat} (h:(noteV d m).2=0):∃ f,(noteV d m).1=⟨d.sure,d.cache++[⟨1,sealV (be m 4)⟩],f,false⟩:=by
 unfold noteV at h ⊢
 split
 ·rename_i c;rw [if_pos c] at h;exact write_okv h
 ·rename_i c;rw [if_neg c] at h;cases h
theorem save_dw {B:Int} {d:Disk} {m:Nat} (h:DW B d):DW B (saveV d m).1:=by
 unfold saveV
 split
 ·exact note_dw h
 ·exact dw_flush (note_dw h)
theorem save_note {d:Disk} {m:Nat} (h:(saveV d m).2=0):(noteV d m).2=0:=by
 unfold saveV at h
 split at h
 ·rename_i c;exact(c h).elim
 ·rename_i c;exact Decidable.not_not.1 c
theorem DW.two {B:Int} {d:Disk} (h:DW B d):(d.sure.length:Int) - 2=B:=by have:=h.len;omega
theorem save_okv {d:Disk} {m:Nat} (h:(saveV d m).2=0):∃ f,(saveV d m).1=⟨settleV d.sure (d.cache++[⟨1,sealV (be m 4)⟩]),[],f,false⟩:=by
 unfold saveV at h ⊢
 split
 ·rename_i c;rw [if_pos c] at h;exact(c h).elim
 ·rename_i c
  rw [if_neg c] at h
  obtain ⟨f1,h1⟩:=note_okv (Decidable.not_not.1 c)
  obtain ⟨f2,h2⟩:=flush_okv h
  rw [h1] at h2
  exact⟨f2,by rw [h1];exact h2⟩
theorem mok_self {m:Int} (h:inK .u32 m):MOk m.toNat (sealV (be m.toNat 4)):=⟨m.toNat,rfl,(u32_toNat h).1,fun _ h=>h⟩
theorem sr_save {B:Int} {s:Store} {m:Int} (h:UpS B s) (hm:inK .u32 m):SR B (stSave s m):=by
 unfold stSave
 split
 ·exact⟨h.dw,fun _=>h⟩
 refine⟨save_dw h.dw,fun e=>?_⟩
 have e:(saveV s.disk m.toNat).2=0:=e
 obtain ⟨f,hd⟩:=save_okv e
 have hr:=note_right (save_note e)
 rw [h.dw.two] at hr
 refine⟨save_dw h.dw,by show(saveV s.disk m.toNat).1.dead=false;rw [hd],h.bl,?_,?_,?_,by show maskR (if (saveV s.disk m.toNat).2=0 then m else s.mask).toNat B=true;rw [if_pos e];exact hr⟩
 ·show ∀ w∈(saveV s.disk m.toNat).1.cache,w.sector=1
  rw [hd]
  intro w m;cases m
 ·show Val (saveV s.disk m.toNat).1 1 (MOk (if (saveV s.disk m.toNat).2=0 then m else s.mask).toNat)
  rw [if_pos e,hd]
  exact(val_last (d:=s.disk) (x:=1)).imp (fun y e=>by rw [e];exact mok_self hm)
 ·show Val (saveV s.disk m.toNat).1 0 (fun y=>y=sealV (sBytes s.sup))
  rw [hd]
  refine val_flushed (d:=⟨s.disk.sure,s.disk.cache++[⟨1,sealV (be m.toNat 4)⟩],f,false⟩) ?_ ⟨h.sb.1,fun w m e=>?_⟩
  ·intro w m
   have:=h.dw.len
   have:=h.dw.one
   rcases List.mem_append.1 m with m | m
   ·exact h.dw.sec w m
   ·cases List.mem_singleton.1 m
    exact⟨by show(0:Int)≤1;omega,by show(1:Int) < (s.disk.sure.length:Int);omega⟩
  rcases List.mem_append.1 m with m | m
  ·exact h.sb.2 w m e
  ·cases List.mem_singleton.1 m
   cases e
theorem sr_note {B:Int} {s:Store} {m:Int} (h:UpS B s) (hm:inK .u32 m) (hs:∀ k,m.toNat.testBit k=true->s.mask.toNat.testBit k=true):SR B (stNote s m):=by
 unfold stNote
 split
 ·exact⟨h.dw,fun _=>h⟩
 refine⟨note_dw h.dw,fun e=>?_⟩
 have e:(noteV s.disk m.toNat).2=0:=e
 obtain ⟨f,hd⟩:=note_okv e
 have hr:=note_right e
 rw [h.dw.two] at hr
 refine⟨note_dw h.dw,by show(noteV s.disk m.toNat).1.dead=false;rw [hd],h.bl,?_,?_,?_,by show maskR (if (noteV s.disk m.toNat).2=0 then m else s.mask).toNat B=true;rw [if_pos e];exact hr⟩
 ·show ∀ w∈(noteV s.disk m.toNat).1.cache,w.sector=1
  rw [hd]
  intro w m
  rcases List.mem_append.1 m with m | m
  ·exact h.one w m
  ·cases List.mem_singleton.1 m
   rfl
 ·show Val (noteV s.disk m.toNat).1 1 (MOk (if (noteV s.disk m.toNat).2=0 then m else s.mask).toNat)
  rw [if_pos e,hd]
  have up:∀ y,MOk s.mask.toNat y->MOk m.toNat y:=fun y ⟨m',h1,h2,h3⟩=>⟨m',h1,h2,fun k hk=>h3 k (hs k hk)⟩
  refine⟨fun y hy=>up y (h.mv.1 y hy),fun w mm e=>?_⟩
  rcases List.mem_append.1 mm with mm | mm
  ·exact up _ (h.mv.2 w mm e)
  ·cases List.mem_singleton.1 mm
   exact mok_self hm
 ·show Val (noteV s.disk m.toNat).1 0 (fun y=>y=sealV (sBytes s.sup))
  rw [hd]
  refine⟨h.sb.1,fun w mm e=>?_⟩
  rcases List.mem_append.1 mm with mm | mm
  ·exact h.sb.2 w mm e
  ·cases List.mem_singleton.1 mm
   cases e
theorem sr_mark {B:Int} {s:Store} {i:Int} (h:UpS B s) (hm:inK .u32 s.mask):SR B (stMark s i):=by
 unfold stMark
 split
 ·exact sr_save h (set_u32 hm)
 ·exact⟨h.dw,fun e=>by cases e⟩
theorem clr_sub {m i:Int}:∀ k,(clrM m i).toNat.testBit k=true->m.toNat.testBit k=true:=by
 intro k hk
 unfold clrM at hk
 split at hk
 ·rename_i hh
  unfold hasM at hh
  obtain ⟨h1,h2⟩:=Bool.and_eq_true_iff.1 hh
  obtain ⟨h3,_,h4⟩:=sub_bit h2
  have hp:=Nat.two_pow_pos i.toNat
  have e:(m - ((2 ^ i.toNat:Nat):Int)).toNat=m.toNat - 2 ^ i.toNat:=by
   generalize 2 ^ i.toNat=p at h3 hp
   omega
  rw [e] at hk
  rw [h4,Nat.testBit_or,hk,Bool.true_or]
 ·exact hk
theorem sr_wipe {B:Int} {s:Store} {i:Int} (h:UpS B s) (hm:inK .u32 s.mask):SR B (stWipe s i):=by
 unfold stWipe
 split
 ·exact sr_note h (clr_u32 hm) clr_sub
 ·exact⟨h.dw,fun e=>by cases e⟩
theorem sr_join {B:Int} {s:Store} {m:Int} (h:UpS B s) (hs:inK .u32 s.mask) (hm:inK .u32 m):SR B (stJoin s m):=sr_save h (or_u32 hs hm)
theorem put_dw {B:Int} {d:Disk} {i:Int} {data:Str} (h:DW B d):DW B (putV d i data).1:=by
 unfold putV
 split
 ·rename_i hb
  split
  ·rename_i hl
   have hb:0≤i∧i < (d.sure.length:Int) - 2:=hb
   have e:i+2=((i.toNat+2:Nat):Int):=by omega
   rw [e]
   have dw:=dw_write (i:=i.toNat+2) h (good_data (by omega) hl)
   split
   ·exact dw
   ·exact dw_flush dw
  ·exact h
 ·exact h
theorem put_okv {d:Disk} {i:Int} {data:Str} (h:(putV d i data).2=0):bd d i∧data.length=8∧∃ f,(putV d i data).1=⟨settleV d.sure (d.cache++[⟨i+2,data⟩]),[],f,false⟩:=by
 unfold putV at h ⊢
 split
 case isFalse c=>rw [if_neg c] at h;cases h
 rename_i c;rw [if_pos c] at h
 split
 case isFalse c=>rw [if_neg c] at h;cases h
 rename_i hl;rw [if_pos hl] at h
 refine⟨c,hl,?_⟩
 split
 ·rename_i c;rw [if_pos c] at h;exact(c h).elim
 ·rename_i c
  rw [if_neg c] at h
  obtain ⟨f1,h1⟩:=write_okv (Decidable.not_not.1 c)
  obtain ⟨f2,h2⟩:=flush_okv h
  rw [h1] at h2
  exact⟨f2,by rw [h1];exact h2⟩
theorem sr_put {B:Int} {s:Store} {i:Int} {data:Str} (h:UpS B s):SR B (stPut s i data):=by
 unfold stPut
 refine⟨put_dw h.dw,fun e=>?_⟩
 have e:(putV s.disk i data).2=0:=e
 obtain ⟨hb,hl,f,hd⟩:=put_okv e
 have hb:0≤i∧i < (s.disk.sure.length:Int) - 2:=hb
 have sec2:Sec ⟨s.disk.sure,s.disk.cache++[⟨i+2,data⟩],f,false⟩:=by
  intro w m
  rcases List.mem_append.1 m with m | m
  ·exact h.dw.sec w m
  ·cases List.mem_singleton.1 m
   exact⟨by dsimp only;omega,by dsimp only;omega⟩
 refine⟨put_dw h.dw,by show(putV s.disk i data).1.dead=false;rw [hd],h.bl,?_,?_,?_,h.mb⟩
 ·show ∀ w∈(putV s.disk i data).1.cache,w.sector=1
  rw [hd]
  intro w m;cases m
 ·show Val (putV s.disk i data).1 1 (MOk s.mask.toNat)
  rw [hd]
  refine val_flushed sec2 ⟨h.mv.1,fun w m e=>?_⟩
  rcases List.mem_append.1 m with m | m
  ·exact h.mv.2 w m e
  ·cases List.mem_singleton.1 m
   have e:i+2=1:=e
   omega
 ·show Val (putV s.disk i data).1 0 (fun y=>y=sealV (sBytes s.sup))
  rw [hd]
  refine val_flushed sec2 ⟨h.sb.1,fun w m e=>?_⟩
  rcases List.mem_append.1 m with m | m
  ·exact h.sb.2 w m e
  ·cases List.mem_singleton.1 m
   have e:i+2=0:=e
   omega
end Gm

set_option maxRecDepth 100000
namespace Gm
open Go
def NW (B:Int) (n:Node):Prop:=DW B n.store.disk∧(n.up=true->UpS B n.store)
theorem UpS.nw {B:Int} {n:Node} (h:UpS B n.store):NW B n:=⟨h.dw,fun _=>h⟩
theorem dw_down {B:Int} {n:Node} (h:DW B n.store.disk):NW B (downN n):=⟨dw_crash h,fun e=>by cases e⟩
theorem nw_keep {B:Int} {n:Node} {r:Store×Int} (h:SR B r):NW B (keepN n r).1:=by
 unfold keepN
 split
 ·rename_i e;exact(h.2 e).nw
 ·exact dw_down (n:=setSt n r.1) h.1
theorem up_keep {B:Int} {n:Node} {r:Store×Int} (h:SR B r) (e:(keepN n r).2=true):UpS B (keepN n r).1.store:=by
 unfold keepN at e ⊢
 split
 ·rename_i e;exact h.2 e
 ·rename_i c;rw [if_neg c] at e;cases e
section
variable {B:Int} {N:Nat} {n:Node} (o:OkN N n) (h:UpS B n.store)
include o h
omit o in
theorem nw_commit {b:Super} (w:wSup b):NW B (commitN n b).1:=nw_keep (sr_commit h w)
omit o in
theorem up_commit {b:Super} (w:wSup b) (e:(commitN n b).2=true):UpS B (commitN n b).1.store:=up_keep (sr_commit h w) e
theorem nw_promote {id:Int}:NW B (promoteN n id).1:=by
 have hc:NW B (commitN n (priS n.store.sup true)).1:=nw_commit h o.sup
 unfold promoteN
 repeat' split
 all_goals first
  | exact h.nw
  | exact hc
theorem nw_demote {id:Int}:NW B (demoteN n id).1:=by
 have hc:NW B (commitN n (priS n.store.sup false)).1:=nw_commit h o.sup
 unfold demoteN
 repeat' split
 all_goals first
  | exact h.nw
  | exact hc
theorem nw_discard {id:Int}:NW B (discardN n id).1:=by
 have hc:NW B (commitN n { n.store.sup with dis:=true }).1:=nw_commit h o.sup
 unfold discardN
 repeat' split
 all_goals first
  | exact h.nw
  | exact hc
theorem mint_nw:NW B (mintN n).1∧((mintN n).2≠6->UpS B (mintN n).1.store):=by
 unfold mintN
 split
 ·exact⟨h.nw,fun _=>h⟩
 rename_i g r hd
 have hg:inK .u64 g:=o.dg g (by rw [hd];simp)
 split
 ·exact⟨h.nw,fun _=>h⟩
 have w:wSup { n.store.sup with vector:=mintVec n.store.sup.vector g }:=⟨o.st.b,mint_vec o.st.v hg⟩
 have hc:=nw_commit (n:={ n with draws:=r,mints:=n.mints++[⟨g,n.store.sup.vector.current,n.id⟩] }) h w
 have hu:=up_commit (n:={ n with draws:=r,mints:=n.mints++[⟨g,n.store.sup.vector.current,n.id⟩] }) h w
 dsimp only
 split
 ·rename_i e
  exact⟨(hu e).nw,fun _=>hu e⟩
 ·exact⟨hc,fun e=>(e rfl).elim⟩
theorem lay_nw {b:Int} {data:Str}:NW B (layN n b data).1∧((layN n b data).2=true->UpS B (layN n b data).1.store):=by
 have h1:=sr_mark (i:=b) h o.st.m
 unfold layN
 dsimp only
 split
 ·rename_i e
  have hu:=up_keep h1 e
  exact⟨nw_keep (sr_put hu),fun e=>up_keep (sr_put hu) e⟩
 ·exact⟨nw_keep h1,fun e=>by cases e⟩
theorem nw_wrote {id b:Int} {data:Str}:NW B (wroteN n id b data).1:=by
 have hl:=(lay_nw o h (b:=b) (data:=data)).1
 unfold wroteN
 repeat' split
 all_goals exact hl
theorem wipe_nw {b:Int}:NW B (wipeN n b).1∧((wipeN n b).2=true->UpS B (wipeN n b).1.store):=
 ⟨nw_keep (sr_wipe h o.st.m),fun e=>up_keep (sr_wipe h o.st.m) e⟩
theorem nw_acked {b:Int}:NW B (ackedN n b).1:=by
 have hw:=(wipe_nw (n:={ n with req:=zR }) (b:=b) ⟨o.st,o.se,o.pe,by show(0:Nat)≤8;omega,o.dl,o.dg,o.ml,o.wa⟩ h).1
 unfold ackedN
 dsimp only
 repeat' split
 all_goals first
  | exact h.nw
  | exact hw
theorem nw_apply {b:Int} {data:Str}:NW B (applyN n b data).1:=by
 have hl:=(lay_nw o h (b:=b) (data:=data)).1
 unfold applyN
 split <;> exact hl
theorem nw_lose:NW B (loseN n).1:=by
 unfold loseN
 split
 ·exact h.nw
 have hm:=(mint_nw (n:=bareN n n.up n.store n.primary) (okN_bare o o.st) h).1
 dsimp only
 split
 ·exact UpS.nw (n:=bareN n n.up n.store n.primary) h
 split
 ·exact hm
 ·exact hm
theorem nw_seek:NW B (seekN n).1:=by
 have hc:NW B (commitN n ⟨n.store.sup.blocks,retire n.peer.vector,false,false,false⟩).1:=nw_commit h ⟨o.st.b,retire_vec o.pe.2.1⟩
 unfold seekN
 dsimp only
 repeat' split
 all_goals first
  | exact h.nw
  | exact hc
theorem nw_ended:NW B (endedN n).1:=by
 have hc:NW B (commitN n { n.store.sup with vector:=retire n.store.sup.vector,pri:=n.primary }).1:=nw_commit h ⟨o.st.b,retire_vec o.st.v⟩
 unfold endedN
 dsimp only
 split <;> exact hc
theorem nw_copied {b:Int}:NW B (copiedN n b).1:=by
 unfold copiedN
 split
 ·exact h.nw
 ·exact(wipe_nw o h).1
theorem nw_roles {k:Int}:NW B (rolesN n k).1:=by
 have hc:NW B (commitN n (priS n.store.sup true)).1:=nw_commit h o.sup
 unfold rolesN
 dsimp only
 repeat' split
 all_goals first
  | exact h.nw
  | exact hc
end
section
variable {B:Int} {N:Nat} {n:Node} (h64:64≤N) (o:OkN N n) (h:UpS B n.store)
include h64 o h
theorem nw_write {id b:Int} {data:Str}:NW B (writeN n id b data).1:=by
 have hm:NW B (if n.state=0∧n.minted=false then mintN n else(n,0)).1∧((if n.state=0∧n.minted=false then mintN n else(n,0)).2≠6->UpS B (if n.state=0∧n.minted=false then mintN n else(n,0)).1.store) ∧
   OkN (N+2) (if n.state=0∧n.minted=false then mintN n else(n,0)).1:=by
  split
  ·exact⟨(mint_nw o h).1,(mint_nw o h).2,okN_mint o h64⟩
  ·exact⟨h.nw,fun _=>h,o.up (by omega)⟩
 rw [write_of]
 generalize (if n.state=0∧n.minted=false then mintN n else(n,0))=q at hm ⊢
 split
 ·exact h.nw
 split
 ·exact h.nw
 split
 ·exact h.nw
 split
 ·exact h.nw
 split
 ·exact h.nw
 split
 ·exact hm.1
 rename_i e
 split
 ·exact hm.1
 ·exact nw_wrote hm.2.2 (hm.2.1 e)
theorem nw_got {b:Int} {data:Str}:NW B (gotN n b data).1:=by
 unfold gotN
 split
 ·exact h.nw
 have oa:=okN_keep o (okS_put (i:=b) (data:=data) o.st h64)
 have ha:=sr_put (i:=b) (data:=data) h
 dsimp only
 split
 ·exact nw_keep ha
 rename_i e
 have ua:=up_keep ha (by simpa using e)
 have ob:=okN_wipe (b:=b) oa (by omega)
 have hb:=wipe_nw (b:=b) oa ua
 split
 ·exact hb.1
 rename_i e2
 exact nw_seek (n:={ (wipeN (keepN n (stPut n.store b data)).1 b).1 with wanted:=0 }) (okN_wanted0 ob) (hb.2 (by simpa using e2))
theorem nw_met {p:Hello} (hh:wHello p):NW B (metN n p).1:=by
 unfold metN
 dsimp only
 split
 ·exact h.nw
 split
 ·have hc:NW B (commitN n { n.store.sup with vector:=retire n.store.sup.vector,pri:=n.primary }).1:=nw_commit h ⟨o.st.b,retire_vec o.st.v⟩
  split <;> exact hc
 have oj:=okN_keep o (okS_join o.st h64 (verdict_u32 o hh))
 have hj:=sr_join (m:=(verdictN n p).2) h o.st.m (verdict_u32 o hh)
 split
 ·exact nw_keep hj
 rename_i e
 have uj:=up_keep (n:=n) hj (by simpa using e)
 split
 ·exact uj.nw
 have w:wSup { n.store.sup with inc:=true,pri:=false,vector:=fromVec n.store.sup.vector p.vector.current }:=⟨o.st.b,from_vec o.st.v hh.2.1.1⟩
 have oc:=okN_commit (b:={ n.store.sup with inc:=true,pri:=false,vector:=fromVec n.store.sup.vector p.vector.current }) oj (by omega) w
 split
 ·exact nw_commit uj w
 ·rename_i e2
  exact nw_seek (okN_enter oc hh) (up_commit uj w (by simpa using e2))
theorem nw_take {p:Packet} (hp:wHello p.hello):NW B (takeN n p).1:=by
 unfold takeN
 split
 ·exact nw_met h64 o h hp
 split
 ·exact nw_apply o h
 split
 ·exact nw_acked o h
 split
 ·exact(wipe_nw o h).1
 split
 ·exact h.nw
 split
 ·exact nw_got h64 o h
 split
 ·exact nw_copied o h
 split
 ·exact nw_ended o h
 split
 ·exact h.nw
 ·exact nw_roles o h
end
theorem nw_receive {B:Int} {N:Nat} {n:Node} {b:Str} (h64:64≤N) (o:OkN N n) (h:NW B n):NW B (receiveN n b).1:=by
 unfold receiveN
 split
 ·exact h
 rename_i c
 split
 ·exact h
 split
 ·exact h
 ·exact nw_take h64 o (h.2 (by cases hu:n.up with | true=>rfl | false=>exact(c (.inl hu)).elim)) (read_w b n.session)
theorem attach_dw {B:Int} {d:Disk} (h:DW B d) (hd:d.dead=false) (hc:d.cache=[]):∃ (s:Super) (m:Nat),stAttach d=(⟨d,s,(m:Int)⟩,0)∧s.blocks=B∧m < 2 ^ 32∧d.sure[1]? = some (sealV (be m 4))∧d.sure[0]? = some (sealV (sBytes s))∧maskR m B=true:=by
 have hl:=h.len
 have h1:=h.one
 have nc:∀ (x:Nat),∀ w∈d.cache,w.sector≠(x:Int):=fun x w m=>by rw [hc] at m;cases m
 have rd:∀ (x:Nat) (hx:x < d.sure.length),readV d x=(d.sure[x],0):=fun x hx=>read_sec hd hx (nc x)
 have gv:∀ (x:Nat) (hx:x < d.sure.length),SGood B x d.sure[x]:=fun x hx=>(h.val x).1 _ (List.getElem?_eq_getElem hx)
 obtain ⟨s,e0,hsb,hsr,hsw⟩:=(gv 0 (by omega)).1 rfl
 obtain ⟨m,e1,hm⟩:=(gv 1 (by omega)).2.1 rfl
 have hm32:m < 2 ^ 32:=by
  have hm:=hm
  unfold maskR at hm
  have hm:=(of_decide_eq_true hm).2.2
  have:(2:Int) ^ B.toNat≤2 ^ 32:=by
   have:(2:Nat) ^ B.toNat≤2 ^ 32:=Nat.pow_le_pow_right (by decide) (by omega)
   exact_mod_cast this
  have h3:(2:Int) ^ 32=4294967296:=by decide
  have h4:(2:Nat) ^ 32=4294967296:=by decide
  omega
 have lS:loadS d=(s,0):=by
  unfold loadS
  have r0:readV d 0=(sealV (sBytes s),0):=by rw [← e0];exact rd 0 (by omega)
  rw [r0]
  dsimp only
  rw [decS6_seal hsw hsr,if_neg (by simp),if_neg (by simp),if_pos ?_]
  unfold fitsS
  rw [beq_iff_eq]
  show s.blocks=(d.sure.length:Int) - 2
  omega
 have lV:loadV d=((m:Int),0):=by
  unfold loadV
  have r1:readV d 1=(sealV (be m 4),0):=by rw [← e1];exact rd 1 (by omega)
  have hu:unbe (be m 4)=m:=by
   rw [unbe_be]
   exact Nat.mod_eq_of_lt (by simpa using hm32)
  rw [r1]
  dsimp only
  rw [openV_seal,if_neg (by simp),if_neg (by simp),hu,if_pos ⟨be_length _ _,by rw [show (d.sure.length:Int) - 2=B by omega];exact hm⟩]
 have aR:∀ k:Nat,(k:Int) < B->(aReadV d k).2=0:=by
  intro k hk
  unfold aReadV
  have r:readV d ((k:Int)+2)=(d.sure[k+2]'(by omega),0):=rd (k+2) (by omega)
  rw [if_pos (show bd d k from ⟨by omega,by omega⟩),r,if_neg (by simp),if_pos ((gv (k+2) (by omega)).2.2 (by omega))]
 have aN:∀ k:Nat,(k:Int)≤B->(allN d k).2=0:=by
  intro k
  induction k with
  | zero=>intro _;rfl
  | succ k ih=>
   intro hk
   unfold allN
   rw [if_neg (fun e=>e (ih (by omega))),if_neg (fun e=>e (aR k (by omega)))]
 have aV:(allV d).2=0:=aN _ (by omega)
 refine⟨s,m,?_,hsb,hm32,by rw [List.getElem?_eq_getElem (by omega),e1],by rw [List.getElem?_eq_getElem (by omega),e0],hm⟩
 unfold stAttach
 rw [lS,lV,if_neg (by simp),if_neg (by simp),if_neg (fun e=>e aV)]
theorem up_attach {B:Int} {d:Disk} (h:DW B d) (hd:d.dead=false) (hc:d.cache=[]):(stAttach d).2=0∧UpS B (stAttach d).1:=by
 obtain ⟨s,m,e,hs,hm,h1,h0,hr⟩:=attach_dw h hd hc
 rw [e]
 have nc:∀ w∈d.cache,False:=fun w m=>by rw [hc] at m;cases m
 refine⟨rfl,h,hd,hs,fun w m=>(nc w m).elim,⟨fun y hy=>?_,fun w m=>(nc w m).elim⟩,⟨fun y hy=>?_,fun w m=>(nc w m).elim⟩,?_⟩
 ·have hy:d.sure[1]? = some y:=hy
  rw [h1] at hy
  cases hy
  exact⟨m,rfl,hm,fun k hk=>hk⟩
 ·have hy:d.sure[0]? = some y:=hy
  rw [h0] at hy
  cases hy
  rfl
 ·exact hr
theorem nw_attach {B:Int} {n:Node} {keeps:List Bool} (h:NW B n):NW B (attachN n keeps).1:=by
 unfold attachN
 split
 ·exact h
 have hr:=dw_revive h.1 keeps
 have ha:=up_attach hr rfl rfl
 rw [if_neg (fun e=>e ha.1)]
 exact UpS.nw (n:=bareN n true (stAttach (reviveV n.store.disk keeps)).1 false) ha.2
end Gm

set_option maxRecDepth 100000
namespace Gm
open Go
def CW (B:Int) (c:Cluster):Prop:=NW B c.n0∧NW B c.n1
theorem CW.node {B:Int} {c:Cluster} (h:CW B c) (i:Bool):NW B (nodeC c i):=by cases i;exact h.1;exact h.2
theorem cw_set {B:Int} {c:Cluster} {n:Node} (h:CW B c) (hn:NW B n) (i:Bool):CW B (setN c i n):=by
 cases i
 ·exact⟨hn,h.2⟩
 ·exact⟨h.1,hn⟩
theorem cw_want {B:Int} {c:Cluster} (h:CW B c) (i w:Bool):CW B (setW c i w):=by cases i <;> exact h
theorem cw_lose {B:Int} {N:Nat} {c:CO} (o:OkC N c.1) (h:CW B c.1) (i:Bool):CW B (loseC c i).1:=by
 unfold loseC
 split
 ·exact h
 rename_i c1
 dsimp only
 have hu:(nodeC c.1 i).up=true:=by simpa using c1
 have h1:=cw_set h (nw_lose (o.node i) ((h.node i).2 hu)) i
 split
 ·exact cw_want h1 _ _
 ·exact h1
theorem cw_end {B:Int} {N:Nat} {c:Cluster} {out:List Outp} (h64:64≤N) (o:OkC N c) (h:CW B c):CW B (endC c out).1:=by
 have o1:OkC N { c with link:=closeL c.link }:=⟨o.a,o.b,⟨o.l.s,Nat.zero_le _,Nat.zero_le _,fun x h=>(by cases h),fun x h=>(by cases h)⟩⟩
 have h1:CW B { c with link:=closeL c.link }:=h
 exact cw_lose (c:=loseC ({ c with link:=closeL c.link },out) false) (okC_lose (c:=({ c with link:=closeL c.link },out)) o1 h64 false) (cw_lose (c:=({ c with link:=closeL c.link },out)) o1 h1 false) true
theorem cw_put {B:Int} {c:Cluster} {l:List Outp} (h:CW B c) (i:Bool):CW B (putC c i l):=by
 unfold putC
 split <;> exact h
theorem cw_after {B:Int} {N:Nat} {c:Cluster} {r:NO} (h64:64≤N) (o:OkC N c) (h:CW B c) (i:Bool) (hn:OkN (N+4) r.1) (hl:OkO 3 r.2) (hw:NW B r.1):CW B (afterC c i r).1:=by
 have o1:=okC_put (okC_set o (by omega:N≤N+4) hn i) i hl
 have h1:CW B (putC (setN c i r.1) i r.2):=cw_put (cw_set h hw i) i
 unfold afterC
 dsimp only
 have o2:OkC (N+7) (if r.1.up=false then setW (putC (setN c i r.1) i r.2) i false else putC (setN c i r.1) i r.2)∧CW B (if r.1.up=false then setW (putC (setN c i r.1) i r.2) i false else putC (setN c i r.1) i r.2):=by
  split
  ·exact⟨okC_want o1 _ _,cw_want h1 _ _⟩
  ·exact⟨o1,h1⟩
 generalize (if r.1.up=false then setW (putC (setN c i r.1) i r.2) i false else putC (setN c i r.1) i r.2)=c2 at o2 ⊢
 split
 ·exact o2.2
 ·refine cw_end (N:=N+7) (by omega) ?_ ?_
  ·split
   ·exact⟨o2.1.a,o2.1.b,o2.1.l⟩
   ·exact o2.1
  ·split
   ·exact o2.2
   ·exact o2.2
theorem cw_connect {B:Int} {N:Nat} {c:Cluster} (h64:64≤N) (o:OkC N c) (h:CW B c) (i:Bool):CW B (connectC c i).1:=by
 unfold connectC
 split
 ·exact h
 dsimp only
 split
 ·exact cw_want h _ _
 have o2:=okC_open (okC_want o i true)
 have h2:CW B { setW c i true with link:=openL (setW c i true).link }:=cw_want h i true
 have oa:=okC_after (r:=beginN (setW c i true).n0 (openL (setW c i true).link).session) o2 h64 false ((okN_begin o2.a o2.l.s).up (by omega)) (okO_begin _ _)
 have ha:=cw_after (r:=beginN (setW c i true).n0 (openL (setW c i true).link).session) h64 o2 h2 false ((okN_begin o2.a o2.l.s).up (by omega)) (okO_begin _ _) h2.1
 exact cw_after (N:=N+15) (by omega) oa ha true ((okN_begin oa.b oa.l.s).up (by omega)) (okO_begin _ _) ha.2
theorem cw_at {B:Int} {N:Nat} {c:Cluster} {e:Event} (h64:64≤N) (o:OkC N c) (oe:OkE e) (h:CW B c) (i:Bool):CW B (doAt c e i).1:=by
 have on:=o.node i
 have hn:=h.node i
 have up:∀ {r:NO},OkN (N+4) r.1->OkO 3 r.2->NW B r.1->CW B (afterC c i r).1:=fun h1 h2 h3=>cw_after h64 o h i h1 h2 h3
 -- what a node that is down answers leaves it as it was
 have dn:∀ {f:Node->NO},(∀ n:Node,n.up=false->(f n).1=n)->((nodeC c i).up=true->NW B (f (nodeC c i)).1)->NW B (f (nodeC c i)).1:=by
  intro f h1 h2
  cases hu:(nodeC c i).up with
  | true=>exact h2 hu
  | false=>rw [h1 _ hu];exact hn
 unfold doAt
 refine ite_of (P:=fun r:CO=>CW B r.1) (fun _=>?_) (fun _=>?_)
 ·exact up (okN_promote on h64) (okO_promote _ _) (dn (f:=fun n=>promoteN n e.id) (fun n hu=>by unfold promoteN;rw [if_pos hu];rfl) (fun hu=>nw_promote on (hn.2 hu)))
 refine ite_of (P:=fun r:CO=>CW B r.1) (fun _=>?_) (fun _=>?_)
 ·exact up (okN_demote on h64) (okO_demote _ _) (dn (f:=fun n=>demoteN n e.id) (fun n hu=>by unfold demoteN;rw [if_pos hu];rfl) (fun hu=>nw_demote on (hn.2 hu)))
 refine ite_of (P:=fun r:CO=>CW B r.1) (fun _=>?_) (fun _=>?_)
 ·exact up (okN_discard on h64) (okO_discard _ _) (dn (f:=fun n=>discardN n e.id) (fun n hu=>by unfold discardN;rw [if_pos hu];rfl) (fun hu=>nw_discard on (hn.2 hu)))
 refine ite_of (P:=fun r:CO=>CW B r.1) (fun _=>?_) (fun _=>?_)
 ·refine up (okN_read on) (okO_read _ _ _) ?_
  unfold readN
  repeat' split
  all_goals exact hn
 refine ite_of (P:=fun r:CO=>CW B r.1) (fun _=>?_) (fun _=>?_)
 ·exact up (okN_write on h64) (okO_write _ _ _ _) (dn (f:=fun n=>writeN n e.id e.block e.data) (fun n hu=>by unfold writeN;rw [if_pos hu];rfl) (fun hu=>nw_write h64 on (hn.2 hu)))
 refine ite_of (P:=fun r:CO=>CW B r.1) (fun _=>?_) (fun _=>?_)
 ·exact cw_connect h64 o h i
 refine ite_of (P:=fun r:CO=>CW B r.1) (fun _=>?_) (fun _=>?_)
 ·have o1:OkC N (if e.kind=7 then setW c i false else c)∧CW B (if e.kind=7 then setW c i false else c):=by
   split
   ·exact⟨okC_want o _ _,cw_want h _ _⟩
   ·exact⟨o,h⟩
  generalize (if e.kind=7 then setW c i false else c)=c1 at o1 ⊢
  split
  ·exact cw_end h64 o1.1 o1.2
  ·exact o1.2
 refine ite_of (P:=fun r:CO=>CW B r.1) (fun _=>?_) (fun _=>?_)
 ·split
  ·exact h
  ·rename_i b r hq
   have hto:=o.l.to i
   rw [hq] at hto
   have o1:OkC N { c with link:=setTo c.link i r }:=⟨o.a,o.b,okL_to o.l i (by have:=hto.1;simp at this;omega) (fun x hx=>hto.2 x (List.mem_cons_of_mem _ hx))⟩
   exact cw_after h64 o1 h i (okN_receive on h64) (okO_receive _ _) (nw_receive h64 on hn)
 refine ite_of (P:=fun r:CO=>CW B r.1) (fun _=>?_) (fun _=>?_)
 ·split
  ·exact up ((okN_down on).up (by omega)) (okO_nil 3) (dw_down hn.1)
  ·exact h
 refine ite_of (P:=fun r:CO=>CW B r.1) (fun _=>?_) (fun _=>?_)
 ·exact cw_set h (nw_attach hn) i
 refine ite_of (P:=fun r:CO=>CW B r.1) (fun _=>?_) (fun _=>?_)
 ·have h0:0≤e.num:=oe.n.1
  split
  ·rename_i hu
   refine up ((okN_arm on (by omega) (by omega)).up (by omega)) (okO_nil 3) ?_
   have u:=hn.2 hu
   exact UpS.nw (n:=setSt (nodeC c i) ⟨armV (nodeC c i).store.disk (min e.num 1000),(nodeC c i).store.sup,(nodeC c i).store.mask⟩) ⟨dw_arm u.dw,u.dead,u.bl,u.one,u.mv,u.sb,u.mb⟩
  ·exact up (on.up (by omega)) (okO_nil 3) hn
 refine ite_of (P:=fun r:CO=>CW B r.1) (fun _=>?_) (fun _=>?_)
 ·refine cw_set h ?_ i
  split
  ·exact hn
  ·exact hn
 refine ite_of (P:=fun r:CO=>CW B r.1) (fun _=>?_) (fun _=>?_)
 ·split
  ·exact h
  ·exact up (okN_receive on h64) (okO_receive _ _) (nw_receive h64 on hn)
 ·exact h
theorem cw_do {B:Int} {N:Nat} {c:Cluster} {e:Event} (h64:64≤N) (o:OkC N c) (oe:OkE e) (h:CW B c):CW B (doC c e).1:=by
 unfold doC
 split
 ·exact cw_at h64 o oe h false
 split
 ·exact cw_at h64 o oe h true
 ·exact h
theorem cw_play {B:Int}:∀ {l:List Event} {N:Nat} {c:Cluster},64≤N->OkC N c->(∀ e∈l,OkE e)->CW B c->CW B (playC c l)
 | [],_,_,_,_,_,h=>h
 | e :: l,_,_,h64,o,he,h=>cw_play (l:=l) (by omega) (okC_do o h64 (he e (by simp))) (fun x hx=>he x (by simp [hx])) (cw_do h64 o (he e (by simp)) h)
end Gm

set_option maxRecDepth 100000
namespace Gm
open Go
structure NI (B:Int) (n:Node):Prop where
 dn:n.up=false->n.state=0
 w0:¬ (n.state=4∧n.store.sup.inc=true)->n.wanted=0
 w4:n.state=4->n.store.sup.inc=true->1≤n.wanted∧n.wanted≤B
theorem NI.same {B:Int} {n m:Node} (h:NI B n) (h1:m.up=n.up) (h2:m.state=n.state) (h3:m.store.sup.inc=n.store.sup.inc) (h4:m.wanted=n.wanted):NI B m:=
 ⟨fun e=>h2.trans (h.dn (h1.symm.trans e)),fun c=>h4.trans (h.w0 (fun c2=>c ⟨h2.trans c2.1,h3.trans c2.2⟩)),fun c1 c2=>by rw [h4];exact h.w4 (h2.symm.trans c1) (h3.symm.trans c2)⟩
section
variable {B:Int} {n:Node} (h:NI B n)
include h
end
end Gm

set_option maxRecDepth 100000
namespace Gm
open Go
end Gm

set_option maxRecDepth 100000
namespace Gm
open Go
section
variable {B:Int} {n:Node} (hu:n.up=true) (h:NI B n)
include hu h
end
end Gm

set_option maxRecDepth 100000
namespace Gm
open Go
end Gm

set_option maxRecDepth 100000
namespace Gm
open Go
structure CI (B:Int) (c:Cluster):Prop where
 a:NI B c.n0
 b:NI B c.n1
 dl:c.link.up=false->c.n0.state=0∧c.n1.state=0
theorem CI.node {B:Int} {c:Cluster} (h:CI B c) (i:Bool):NI B (nodeC c i):=by cases i;exact h.a;exact h.b
theorem CI.zero {B:Int} {c:Cluster} (h:CI B c) (i:Bool) (e:c.link.up=false):(nodeC c i).state=0:=by cases i;exact(h.dl e).1;exact(h.dl e).2
end Gm

set_option maxRecDepth 100000
namespace Gm
open Go
section
variable {n:Node} (s:n.state=0)
include s
end
end Gm

set_option maxRecDepth 100000
namespace Gm
open Go
theorem dw_fmt {b:Int} {g:Nat} (hb:1≤b∧b≤32) (hg:g≠0) (h64:g < 18446744073709551616):DW b (fmtV b g).1:=by
 unfold fmtV
 rw [if_pos ⟨hb.1,hb.2,hg⟩]
 have w:wSup (supN b g):=⟨⟨by show(-9223372036854775808:Int)≤b;omega,by show b≤(9223372036854775807:Int);omega⟩,⟨by show(0:Int)≤(g:Int);omega,by show(g:Int)≤(18446744073709551615:Int);omega⟩,u64_0,u64_0,u64_0⟩
 have r:supR (supN b g)=true:=by
  unfold supR supN
  rw [Bool.and_eq_true]
  refine⟨decide_eq_true hb,?_⟩
  have:((g:Int)==0)=false:=beq_eq_false_iff_ne.2 (by omega)
  rw [this];rfl
 refine⟨?_,hb,fun w m=>(by cases m),fun x=>⟨fun y hy=>?_,fun w m=>(by cases m)⟩⟩
 ·show((fmtS b.toNat g).length:Int)=b+2
  unfold fmtS
  simp only [List.length_cons,List.length_replicate]
  omega
 ·have hy:(fmtS b.toNat g)[x]? = some y:=hy
  unfold fmtS at hy
  match x,hy with
  | 0,hy=>
   cases hy
   refine⟨fun _=>⟨supN b g,?_,rfl,r,w⟩,fun h=>(by cases h),fun h=>(by omega)⟩
   rfl
  | 1,hy=>
   cases hy
   refine⟨fun h=>(by cases h),fun _=>⟨0,rfl,?_⟩,fun h=>(by omega)⟩
   unfold maskR
   refine decide_eq_true ⟨hb.1,hb.2,?_⟩
   have:=Nat.two_pow_pos b.toNat
   have h2:(2:Int) ^ b.toNat=((2 ^ b.toNat:Nat):Int):=by simp
   rw [h2]
   omega
  | x+2,hy=>
   simp only [List.getElem?_cons_succ,List.getElem?_replicate] at hy
   split at hy
   ·cases hy
    exact good_data (by omega) rfl
   ·cases hy
theorem cw_reach {b:Int} {l:List Event} (he:∀ e∈l,OkE e):CW (1+b % 4) (reachC b l):=by
 unfold reachC
 have hb:1≤1+b % 4∧1+b % 4≤32:=by omega
 refine cw_play (N:=64) (by omega) okC_new he ?_
 have d:=dw_fmt (g:=7) hb (by decide) (by decide)
 have nw:∀ i:Int,NW (1+b % 4) (newN i (1+b % 4) 7):=fun i=>nw_attach ⟨d,fun e=>by cases e⟩
 unfold newC
 rw [if_neg ?_]
 ·exact⟨nw 0,nw 1⟩
 ·unfold fmtV
  rw [if_pos ⟨hb.1,hb.2,by decide⟩]
  simp
end Gm

set_option maxRecDepth 100000
namespace Gm
open Go
end Gm

set_option maxRecDepth 100000
namespace Gm
open Go
def IdC (c:Cluster):Prop:=c.n0.id=0∧c.n1.id=1
theorem IdC.node {c:Cluster} (h:IdC c) (i:Bool):(nodeC c i).id=bI i:=by cases i;exact h.1;exact h.2
end Gm

set_option maxRecDepth 100000
namespace Gm
open Go
structure PI (n:Node):Prop where
 p1:n.primary=true->n.store.sup.inc=false
 p2:n.asking=true->n.state=2∨n.state=3
 p3:n.state=2∨n.state=3->n.store.sup.inc=false
theorem PI.same {n m:Node} (h:PI n) (h1:m.primary=n.primary) (h2:m.asking=n.asking) (h3:m.state=n.state) (h4:m.store.sup.inc=n.store.sup.inc):PI m:=
 ⟨fun e=>h4.trans (h.p1 (h1.symm.trans e)),fun e=>by rw [h3];exact h.p2 (h2.symm.trans e),fun e=>h4.trans (h.p3 (by rw [← h3];exact e))⟩
section
variable {n:Node} (h:PI n)
include h
end
end Gm

set_option maxRecDepth 100000
namespace Gm
open Go
def PC (c:Cluster):Prop:=PI c.n0∧PI c.n1
theorem PC.node {c:Cluster} (h:PC c) (i:Bool):PI (nodeC c i):=by cases i;exact h.1;exact h.2
theorem IdC.two {c:Cluster} (h:IdC c) (i:Bool):(nodeC c i).id=0∨(nodeC c i).id=1:=by cases i;exact .inl h.1;exact .inr h.2
end Gm

set_option maxRecDepth 100000
namespace Gm
open Go
end Gm

set_option maxRecDepth 100000
namespace Gm
open Go
end Gm

set_option maxRecDepth 100000
namespace Gm
open Go
theorem diskRead_ok {N:Nat} {d:Disk} {i:Int} (hN:N≤100000) (o:OkD N d) {K:(Str×Int)->Prop} (k:K (readV d i)):disk_Read.F d i K:=by
 have h1:=o.s
 have h2:=o.c
 unfold disk_Read.F
 refine cond_t ?_ k
 rw [Bool.and_eq_true]
 exact⟨Nat.ble_eq_true_of_le (by omega),Nat.ble_eq_true_of_le (by omega)⟩
theorem areaRead_ok {N:Nat} {d:Disk} {i:Int} (hN:N≤100000) (o:OkD N d) {K:(Str×Int)->Prop} (k:K (aReadV d i)):q47.F d i K:=by
 have hs:=o.s
 unfold q47.F q47.FV
 unfold aReadV at k
 refine area_there_ok (by omega) (cond_ok (fun h=>?_) (fun h=>?_))
 ·rw [if_neg (of_decide_eq_false (not_t h))] at k;exact k
 have hb:=of_decide_eq_true (not_f h)
 rw [if_pos hb] at k
 rw [add2 (by omega) hb]
 refine diskRead_ok hN o (cond_ok (fun h=>?_) (fun h=>?_))
 ·rw [if_pos (ne_t h)] at k;exact k
 rw [if_neg (fun e=>e (ne_f h))] at k
 refine cond_ok (fun h=>?_) (fun h=>?_)
 ·rw [if_neg (bne_nat (b:=8) h)] at k;exact k
 ·rw [if_pos (bne_nat' (b:=8) h)] at k;exact k
section
variable {N:Nat} {n:Node} (hN:N≤6900) (h64:64≤N) (o:OkN N n)
include hN h64 o
end
end Gm

set_option maxRecDepth 100000
namespace Gm
open Go
end Gm

set_option maxRecDepth 100000
namespace Gm
open Go
section
variable {N:Nat} {n:Node} (hN:N≤6800) (h64:64≤N) (o:OkN N n)
include o
include hN h64
end
end Gm



set_option maxRecDepth 100000
namespace Gm
open Go
theorem out2 {o p:Outp}:decide ((([o]:List Outp).length+([p]:List Outp).length) * 48≤room)=true:=fit_ok (by simp)
section
variable {N:Nat} {n:Node} (hN:N≤6800) (h64:64≤N) (o:OkN N n)
include hN h64 o
theorem PromoteP_ok {id:Int} {K:NO->Prop} (k:K (promoteN n id)):q79.F n id K:=by
 unfold q79.F q79.FV
 unfold promoteN refuseN at k
 refine cond_ok (fun h=>?_) (fun h=>?_)
 ·rw [if_pos (not_t h)] at k;exact gd_ok out1 k
 rw [if_neg (nf (not_f h))] at k
 refine cond_ok (fun h=>?_) (fun h=>?_)
 ·rw [if_pos h] at k;exact gd_ok out1 k
 rw [if_neg (nt h)] at k
 refine cond_ok (fun h=>?_) (fun h=>?_)
 ·rw [if_pos h] at k;exact gd_ok out1 k
 rw [if_neg (nt h)] at k
 refine cond_ok (fun h=>?_) (fun h=>?_)
 ·rw [if_pos h] at k;exact gd_ok out1 k
 rw [if_neg (nt h)] at k
 refine cond_ok (fun h1=>?_) (fun h1=>?_)
 ·rw [if_pos (.inl (eq_t h1))] at k;exact gd_ok out1 k
 refine cond_ok (fun h2=>?_) (fun h2=>?_)
 ·rw [if_pos (.inr (.inl (eq_t h2)))] at k;exact gd_ok out1 k
 refine cond_ok (fun h3=>?_) (fun h3=>?_)
 ·rw [if_pos (.inr (.inr h3))] at k;exact gd_ok out1 k
 rw [if_neg (fun h=>h.elim (eq_f h1) (fun h=>h.elim (eq_f h2) (nt h3)))] at k
 refine cond_ok (fun h=>?_) (fun h=>?_)
 ·rw [if_pos h] at k;exact gd_ok out1 k
 rw [if_neg (nt h)] at k
 refine cond_ok (fun h=>?_) (fun h4=>?_)
 ·rw [if_pos (show linkedN n=true by unfold linkedN;rw [h];rfl)] at k
  exact packet_Encode_ok (by exact wZH) (by exact o.se) (gd_ok out1 k)
 refine cond_ok (fun h=>?_) (fun h5=>?_)
 ·rw [if_pos (show linkedN n=true by unfold linkedN;rw [h4,h];rfl)] at k
  exact packet_Encode_ok (by exact wZH) (by exact o.se) (gd_ok out1 k)
 rw [if_neg (show ¬ linkedN n=true by unfold linkedN;rw [h4,h5];simp)] at k
 unfold commitN keepN at k
 refine storeCommit_ok (b:=priS n.store.sup true) (by omega) h64 o.st ⟨o.st.b,o.st.v⟩ (cond_ok (fun hc=>?_) (fun hc=>?_))
 ·have hc:=ne_t hc
  rw [if_neg hc] at k
  exact nodeDown_ok (cond_f (by rw [ne0 hc]) k)
 ·have hc:=ne_f hc
  rw [if_pos hc] at k
  exact cond_t (by rw [eq0 hc]) (gd_ok out1 k)
theorem DemoteP_ok {id:Int} {K:NO->Prop} (k:K (demoteN n id)):q81.F n id K:=by
 unfold q81.F q81.FV
 unfold demoteN refuseN at k
 refine cond_ok (fun h=>?_) (fun h=>?_)
 ·rw [if_pos (not_t h)] at k;exact gd_ok out1 k
 rw [if_neg (nf (not_f h))] at k
 refine cond_ok (fun h=>?_) (fun h=>?_)
 ·rw [if_pos (not_t h)] at k;exact gd_ok out1 k
 rw [if_neg (nf (not_f h))] at k
 refine cond_ok (fun h1=>?_) (fun h1=>?_)
 ·rw [if_pos (.inl h1)] at k;exact gd_ok out1 k
 refine cond_ok (fun h2=>?_) (fun h2=>?_)
 ·rw [if_pos (.inr (eq_t h2))] at k;exact gd_ok out1 k
 rw [if_neg (fun h=>h.elim (nt h1) (eq_f h2))] at k
 have oc:=okN_commit (b:=priS n.store.sup false) o h64 o.sup
 unfold commitN keepN at k oc
 refine storeCommit_ok (b:=priS n.store.sup false) (by omega) h64 o.st ⟨o.st.b,o.st.v⟩ (cond_ok (fun hc=>?_) (fun hc=>?_))
 ·have hc:=ne_t hc
  rw [if_neg hc] at k
  exact nodeDown_ok (cond_t (by rw [ne0 hc];rfl) k)
 ·have hc:=ne_f hc
  rw [if_pos hc] at k oc
  refine cond_f (by rw [eq0 hc];rfl) ?_
  rw [if_pos rfl] at k
  dsimp only at k
  refine cond_ok (fun h=>?_) (fun h4=>?_)
  ·rw [if_pos (show linkedN _=true by unfold linkedN;exact Bool.or_eq_true_iff.2 (.inl h))] at k
   exact packet_Encode_ok (by exact wZH) (by exact oc.se) (gd_ok out1 (gd_ok out2 k))
  refine cond_ok (fun h=>?_) (fun h5=>?_)
  ·rw [if_pos (show linkedN _=true by unfold linkedN;exact Bool.or_eq_true_iff.2 (.inr h))] at k
   exact packet_Encode_ok (by exact wZH) (by exact oc.se) (gd_ok out1 (gd_ok out2 k))
  rw [if_neg (show ¬ linkedN _=true by unfold linkedN;exact fun e=>(Bool.or_eq_true_iff.1 e).elim (nt h4) (nt h5))] at k
  exact gd_ok out1 k
theorem DiscardP_ok {id:Int} {K:NO->Prop} (k:K (discardN n id)):q80.F n id K:=by
 unfold q80.F q80.FV
 unfold discardN refuseN at k
 refine cond_ok (fun h=>?_) (fun h=>?_)
 ·rw [if_pos (not_t h)] at k;exact gd_ok out1 k
 rw [if_neg (nf (not_f h))] at k
 refine cond_ok (fun h=>?_) (fun h=>?_)
 ·rw [if_pos h] at k;exact gd_ok out1 k
 rw [if_neg (nt h)] at k
 refine cond_ok (fun h=>?_) (fun h=>?_)
 ·rw [if_pos (ne_t h)] at k;exact gd_ok out1 k
 rw [if_neg (fun e=>e (ne_f h))] at k
 unfold commitN keepN at k
 refine storeCommit_ok (b:={ n.store.sup with dis:=true }) (by omega) h64 o.st ⟨o.st.b,o.st.v⟩ (cond_ok (fun hc=>?_) (fun hc=>?_))
 ·have hc:=ne_t hc
  rw [if_neg hc] at k
  exact nodeDown_ok (cond_f (by rw [ne0 hc]) k)
 ·have hc:=ne_f hc
  rw [if_pos hc] at k
  exact cond_t (by rw [eq0 hc]) (gd_ok out1 k)
omit h64 in
theorem ReadP_ok {id b:Int} {K:NO->Prop} (k:K (readN n id b)):q49.F n id b K:=by
 unfold q49.F q49.FV
 unfold readN refuseN at k
 refine cond_ok (fun h=>?_) (fun h=>?_)
 ·rw [if_pos (not_t h)] at k;exact gd_ok out1 k
 rw [if_neg (nf (not_f h))] at k
 refine cond_ok (fun h=>?_) (fun h=>?_)
 ·rw [if_pos (not_t h)] at k;exact gd_ok out1 k
 rw [if_neg (nf (not_f h))] at k
 unfold q48.F q48.FV
 exact areaRead_ok (by omega) o.st.d (gd_ok out1 k)
end
end Gm
