/- Meetings, the plain law: stores whose fuse isn't lit; what two decide. -/
import Derived.Test.YtlaijgoahmigmaaGreatDoorGdI3
import Derived.Test.YtlaijgoahmigmaaGreatDoorGdP6
set_option maxRecDepth 100000
namespace Gm
open Go
theorem sup_right {B:Int} {s:Store} (u:UpS B s) (w:wSup s.sup):supR s.sup=true:=by
 have hl:=u.dw.len
 have h1:=u.dw.one
 have h0:s.disk.sure[0]? = some s.disk.sure[0]:=List.getElem?_eq_getElem (by omega)
 have e:=u.sb.1 _ h0
 obtain ⟨s',e',hb,hr,hw⟩:=((u.dw.val 0).1 _ h0).1 rfl
 have q:openV (sealV (sBytes s.sup))=openV (sealV (sBytes s')):=by rw [← e,← e']
 rw [openV_seal,openV_seal] at q
 have q1:=(sOf_sBytes0 w (by rw [u.bl];exact h1)).1
 have q2:=(sOf_sBytes hw hr).1
 rw [(Prod.mk.inj q).1,q2] at q1
 rw [← q1]
 exact hr
theorem cur_ne {s:Super} (h:supR s=true):s.vector.current≠0:=by
 unfold supR at h
 have:=(Bool.and_eq_true_iff.1 h).2
 intro e
 rw [e] at this
 cases this
theorem supR_of {s:Super} (hb:1≤s.blocks∧s.blocks≤32) (hc:s.vector.current≠0):supR s=true:=by
 unfold supR
 rw [decide_eq_true hb,beq_eq_false_iff_ne.2 hc]
 rfl
theorem retire_cur (v:Vec):(retire v).current=v.current:=by
 unfold retire
 split <;> rfl
def Live (d:Disk):Prop:=d.dead=false∧d.fuse≤0
theorem write_live {d:Disk} {i:Int} {data:Str} (h:Live d) (hi:0≤i∧i < d.sure.length) (hl:data.length≤64):(writeV d i data).2=0∧Live (writeV d i data).1:=by
 have hf:=h.2
 unfold writeV
 rw [if_neg (by rw [h.1];simp),if_neg (fun e=>e hi),if_neg (by omega)]
 split
 ·exact⟨rfl,rfl,Int.le_refl 0⟩
 ·rw [if_neg (by omega)]
  exact⟨rfl,rfl,by show d.fuse - 1≤0;omega⟩
theorem flush_live {d:Disk} (h:Live d):(flushV d).2=0∧Live (flushV d).1:=by
 have hf:=h.2
 unfold flushV
 rw [if_neg (by rw [h.1];simp)]
 split
 ·exact⟨rfl,rfl,Int.le_refl 0⟩
 ·rw [if_neg (by omega)]
  exact⟨rfl,rfl,by show d.fuse - 1≤0;omega⟩
theorem commit_live {B:Int} {s:Store} {b:Super} (u:UpS B s) (h:Live s.disk) (hb:b.blocks=B) (hc:b.vector.current≠0):(stCommit s b).2=0∧Live (stCommit s b).1.disk:=by
 have hl:=u.dw.len
 have h1:=u.dw.one
 have hw:=write_live (i:=0) (data:=sealV (sBytes b)) h ⟨by omega,by omega⟩ (by rw [sealV_length,sBytes_length];decide)
 have hf:=flush_live hw.2
 have hr:supR b=true:=supR_of (by rw [hb];exact h1) hc
 have hfit:fitsS s.disk b=true:=by
  unfold fitsS
  rw [beq_iff_eq]
  omega
 unfold stCommit
 split
 ·exact⟨rfl,h⟩
 have hcd:commitD s.disk b=flushV (writeV s.disk 0 (sealV (sBytes b))).1:=by
  unfold commitD
  rw [if_pos ⟨hr,hfit⟩,if_neg (fun e=>e hw.1)]
 rw [hcd]
 exact⟨hf.1,hf.2⟩
theorem save_live {B:Int} {s:Store} {m:Int} (u:UpS B s) (h:Live s.disk) (hm:maskR m.toNat B=true):(stSave s m).2=0∧Live (stSave s m).1.disk∧(stSave s m).1.mask=m:=by
 have hl:=u.dw.len
 have h1:=u.dw.one
 have hw:=write_live (i:=1) (data:=sealV (be m.toNat 4)) h ⟨by omega,by omega⟩ (by rw [sealV_length,be_length];decide)
 have hf:=flush_live hw.2
 have hn:noteV s.disk m.toNat=writeV s.disk 1 (sealV (be m.toNat 4)):=by
  unfold noteV
  rw [if_pos (by rw [show (s.disk.sure.length:Int) - 2=B by omega];exact hm)]
 have hs:saveV s.disk m.toNat=flushV (writeV s.disk 1 (sealV (be m.toNat 4))).1:=by
  unfold saveV
  rw [hn,if_neg (fun e=>e hw.1)]
 unfold stSave
 split
 ·rename_i e
  exact⟨rfl,h,e.symm⟩
 ·rw [hs]
  exact⟨hf.1,hf.2,if_pos hf.1⟩
theorem maskR_or {a b:Nat} {B:Int} (ha:maskR a B=true) (hb:maskR b B=true):maskR ((a ||| b:Nat):Int) B=true:=by
 unfold maskR at ha hb ⊢
 have ha:=of_decide_eq_true ha
 have hb:=of_decide_eq_true hb
 have h2:((2 ^ B.toNat:Nat):Int)=(2:Int) ^ B.toNat:=by simp
 refine decide_eq_true ⟨ha.1,ha.2.1,?_⟩
 rw [← h2] at ha hb ⊢
 have:a ||| b < 2 ^ B.toNat:=Nat.or_lt_two_pow (by omega) (by omega)
 omega
theorem maskR_all {B:Int} (h:1≤B∧B≤32):maskR (allM B).toNat B=true:=by
 unfold maskR allM
 have h2:((2 ^ B.toNat:Nat):Int)=(2:Int) ^ B.toNat:=by simp
 rw [if_pos h,Int.toNat_natCast]
 refine decide_eq_true ⟨h.1,h.2,?_⟩
 rw [← h2]
 have:=Nat.two_pow_pos B.toNat
 omega
theorem orM_toNat (a b:Int):(orM a b).toNat=a.toNat ||| b.toNat:=by unfold orM;exact Int.toNat_natCast _
theorem or_all {m:Int} {B:Int} (hm:maskR m.toNat B=true):orM m (allM B)=allM B:=by
 unfold maskR at hm
 have hm:=of_decide_eq_true hm
 have h2:((2 ^ B.toNat:Nat):Int)=(2:Int) ^ B.toNat:=by simp
 rw [← h2] at hm
 unfold orM allM
 rw [if_pos ⟨hm.1,hm.2.1⟩,Int.toNat_natCast]
 congr 1
 apply Nat.eq_of_testBit_eq
 intro k
 rw [Nat.testBit_or,Nat.testBit_two_pow_sub_one]
 by_cases hk:k < B.toNat
 ·rw [decide_eq_true hk,Bool.or_true]
 ·rw [decide_eq_false hk,Bool.or_false]
  refine Nat.testBit_lt_two_pow ?_
  have:2 ^ B.toNat≤2 ^ k:=Nat.pow_le_pow_right (by decide) (by omega)
  omega
theorem or_two (a b:Int):orM a (orM a b)=orM a b∧orM b (orM a b)=orM a b:=by
 unfold orM
 rw [Int.toNat_natCast]
 refine⟨?_,?_⟩
 ·rw [← Nat.or_assoc,Nat.or_self]
 ·rw [Nat.or_comm b.toNat,Nat.or_assoc,Nat.or_self]
theorem met_src {B:Int} {n:Node} {h:Hello} (u:UpS B n.store) (l:Live n.store.disk) (k4:(verdictN n h).1.kind≠4) (k1:(verdictN n h).1.kind≠1) (hs:(verdictN n h).1.source=n.id)
  (hm:maskR (orM n.store.mask (verdictN n h).2).toNat B=true) :
  (metN n h).1.state=3∧(metN n h).1.store.mask=orM n.store.mask (verdictN n h).2∧(metN n h).1.store.sup=n.store.sup∧(metN n h).2=[]:=by
 obtain ⟨j1,_,j3⟩:=save_live u l hm
 have q:keepN n (stJoin n.store (verdictN n h).2)=(setSt n (stJoin n.store (verdictN n h).2).1,true):=by unfold keepN;exact if_pos j1
 unfold metN
 dsimp only
 rw [if_neg k4,if_neg k1,q,if_neg (by simp),if_pos hs]
 exact⟨rfl,j3,join_sup _ _,rfl⟩
theorem met_tgt {B:Int} {N:Nat} {n:Node} {h:Hello} (o:OkN N n) (h64:64≤N) (u:UpS B n.store) (l:Live n.store.disk) (k4:(verdictN n h).1.kind≠4) (k1:(verdictN n h).1.kind≠1) (hs:(verdictN n h).1.source≠n.id)
  (hm:maskR (orM n.store.mask (verdictN n h).2).toNat B=true) (hv:inK .u32 (verdictN n h).2) (hh:wHello h) (hc:h.vector.current≠0) :
  (metN n h).1.state=4∧(metN n h).1.store.mask=orM n.store.mask (verdictN n h).2:=by
 obtain ⟨j1,j2,j3⟩:=save_live u l hm
 have uj:UpS B (stJoin n.store (verdictN n h).2).1:=(sr_join u o.st.m hv).2 j1
 have oj:OkS (N+1) (stJoin n.store (verdictN n h).2).1:=okS_join o.st h64 hv
 have q:keepN n (stJoin n.store (verdictN n h).2)=(setSt n (stJoin n.store (verdictN n h).2).1,true):=by unfold keepN;exact if_pos j1
 have l1:Live (stJoin n.store (verdictN n h).2).1.disk:=j2
 have m1:(stJoin n.store (verdictN n h).2).1.mask=orM n.store.mask (verdictN n h).2:=j3
 have hcur:=cur_ne (sup_right u o.sup)
 unfold metN
 dsimp only
 rw [if_neg k4,if_neg k1,q,if_neg (by simp),if_neg hs]
 generalize (stJoin n.store (verdictN n h).2).1=s1 at uj oj l1 m1 ⊢
 have w:wSup { n.store.sup with inc:=true,pri:=false,vector:=fromVec n.store.sup.vector h.vector.current }:=⟨o.st.b,from_vec o.st.v hh.2.1.1⟩
 have cl:=commit_live (b:={ n.store.sup with inc:=true,pri:=false,vector:=fromVec n.store.sup.vector h.vector.current }) uj l1 u.bl hcur
 have uc:=(sr_commit (b:={ n.store.sup with inc:=true,pri:=false,vector:=fromVec n.store.sup.vector h.vector.current }) uj w).2 cl.1
 have hs2:=commit_inc (s:=s1) cl.1
 have hmk:(stCommit s1 { n.store.sup with inc:=true,pri:=false,vector:=fromVec n.store.sup.vector h.vector.current }).1.mask=s1.mask:=by unfold stCommit;split <;> rfl
 have q2:commitN (setSt n s1) { n.store.sup with inc:=true,pri:=false,vector:=fromVec n.store.sup.vector h.vector.current } = (setSt n (stCommit s1 { n.store.sup with inc:=true,pri:=false,vector:=fromVec n.store.sup.vector h.vector.current }).1,true):=by
  unfold commitN keepN
  exact if_pos cl.1
 rw [q2,if_neg (by simp)]
 have l2:=cl.2
 generalize (stCommit s1 { n.store.sup with inc:=true,pri:=false,vector:=fromVec n.store.sup.vector h.vector.current }).1=s2 at uc hs2 hmk l2 ⊢
 unfold seekN
 split
 ·exact⟨rfl,hmk.trans m1⟩
 split
 ·exact⟨rfl,hmk.trans m1⟩
 ·have c2:=commit_live (b:=⟨s2.sup.blocks,retire h.vector,false,false,false⟩) uc l2 uc.bl (by rw [retire_cur];exact hc)
  have hmk2:(stCommit s2 ⟨s2.sup.blocks,retire h.vector,false,false,false⟩).1.mask=s2.mask:=by unfold stCommit;split <;> rfl
  have q3:commitN (enterN (setSt n s2) 4 h) ⟨s2.sup.blocks,retire h.vector,false,false,false⟩=(setSt (enterN (setSt n s2) 4 h) (stCommit s2 ⟨s2.sup.blocks,retire h.vector,false,false,false⟩).1,true):=by
   unfold commitN keepN
   exact if_pos c2.1
  have q4:commitN (enterN (setSt n s2,true).1 4 h) ⟨(enterN (setSt n s2,true).1 4 h).store.sup.blocks,retire (enterN (setSt n s2,true).1 4 h).peer.vector,false,false,false⟩=(setSt (enterN (setSt n s2) 4 h) (stCommit s2 ⟨s2.sup.blocks,retire h.vector,false,false,false⟩).1,true):=q3
  dsimp only at q4 ⊢
  rw [q4,if_pos rfl]
  exact⟨rfl,hmk2.trans (hmk.trans m1)⟩
theorem met_lnk {B:Int} {N:Nat} {n:Node} {h:Hello} (o:OkN N n) (u:UpS B n.store) (l:Live n.store.disk) (k1:(verdictN n h).1.kind=1) :
  (metN n h).1.state=2∧(metN n h).1.store.mask=n.store.mask∧(metN n h).1.store.sup.vector.current=n.store.sup.vector.current∧(metN n h).2=[]:=by
 have hcur:=cur_ne (sup_right u o.sup)
 have cl:=commit_live (b:={ n.store.sup with vector:=retire n.store.sup.vector,pri:=n.primary }) u l u.bl (by rw [retire_cur];exact hcur)
 have hs2:=commit_inc (s:=n.store) cl.1
 have hmk:(stCommit n.store { n.store.sup with vector:=retire n.store.sup.vector,pri:=n.primary }).1.mask=n.store.mask:=by unfold stCommit;split <;> rfl
 have q:commitN n { n.store.sup with vector:=retire n.store.sup.vector,pri:=n.primary } = (setSt n (stCommit n.store { n.store.sup with vector:=retire n.store.sup.vector,pri:=n.primary }).1,true):=by
  unfold commitN keepN
  exact if_pos cl.1
 unfold metN
 dsimp only
 rw [if_neg (by rw [k1];decide),if_pos k1,q,if_pos rfl]
 refine⟨rfl,hmk,?_,rfl⟩
 show(stCommit n.store { n.store.sup with vector:=retire n.store.sup.vector,pri:=n.primary }).1.sup.vector.current=n.store.sup.vector.current
 rw [hs2]
 exact retire_cur _
inductive Alike (x y:Node):Prop
 | refuse:decideV (ownN x) (ownN y)=noVer->metN x (ownN y)=(x,[closeO x])->metN y (ownN x)=(y,[closeO y])->Alike x y
 | none:decideV (ownN x) (ownN y)=⟨1,-1⟩->(metN x (ownN y)).1.state=2->(metN y (ownN x)).1.state=2->(metN x (ownN y)).2=[]->(metN y (ownN x)).2=[]->
   (metN x (ownN y)).1.store.sup.vector.current=(metN y (ownN x)).1.store.sup.vector.current->(metN x (ownN y)).1.store.mask=0->(metN y (ownN x)).1.store.mask=0->Alike x y
 | onto0 (k:Int):decideV (ownN x) (ownN y)=⟨k,0⟩->k=2∨k=3->(metN x (ownN y)).1.state=3->(metN y (ownN x)).1.state=4->(metN x (ownN y)).1.store.mask=(metN y (ownN x)).1.store.mask->(metN x (ownN y)).1.store.sup=x.store.sup->Alike x y
 | onto1 (k:Int):decideV (ownN x) (ownN y)=⟨k,1⟩->k=2∨k=3->(metN x (ownN y)).1.state=4->(metN y (ownN x)).1.state=3->(metN x (ownN y)).1.store.mask=(metN y (ownN x)).1.store.mask->(metN y (ownN x)).1.store.sup=y.store.sup->Alike x y
theorem alike_of {B:Int} {N:Nat} {x y:Node} (h64:64≤N) (ox:OkN N x) (oy:OkN N y) (ux:UpS B x.store) (uy:UpS B y.store) (lx:Live x.store.disk) (ly:Live y.store.disk) (ix:x.id=0) (iy:y.id=1):Alike x y:=by
 have vx:verdictN x (ownN y)=(decideV (ownN x) (ownN y),bitsV (decideV (ownN x) (ownN y)) (ownN x) (ownN y)):=by
  unfold verdictN
  rw [if_neg (show ¬ x.id=1 by omega),if_neg (show ¬ x.id=1 by omega)]
 have vy:verdictN y (ownN x)=(decideV (ownN x) (ownN y),bitsV (decideV (ownN x) (ownN y)) (ownN x) (ownN y)):=by
  unfold verdictN
  rw [if_pos iy,if_pos iy]
 have hbx:=verdict_u32 ox (own_w oy)
 have hby:=verdict_u32 oy (own_w ox)
 rw [vx] at hbx
 rw [vy] at hby
 have cx:=cur_ne (sup_right ux ox.sup)
 have cy:=cur_ne (sup_right uy oy.sup)
 have mx:=ux.mb
 have my:=uy.mb
 -- what is copied: the same for both
 have bits:∀ k s,(k=2∨k=3)->orM x.store.mask (bitsV ⟨k,s⟩ (ownN x) (ownN y))=orM y.store.mask (bitsV ⟨k,s⟩ (ownN x) (ownN y))∧maskR (orM x.store.mask (bitsV ⟨k,s⟩ (ownN x) (ownN y))).toNat B=true:=by
  intro k s hk
  rcases hk with rfl | rfl
  ·have e:bitsV ⟨2,s⟩ (ownN x) (ownN y)=orM x.store.mask y.store.mask:=rfl
   rw [e,(or_two _ _).1,(or_two _ _).2]
   refine⟨rfl,?_⟩
   rw [orM_toNat]
   exact maskR_or mx my
  ·have e:bitsV ⟨3,s⟩ (ownN x) (ownN y)=allM B:=by
    show allM x.store.sup.blocks=allM B
    rw [ux.bl]
   rw [e,or_all mx,or_all my]
   exact⟨rfl,maskR_all ux.dw.one⟩
 have hd:=dec_of (ownN x) (ownN y)
 generalize hv:decideV (ownN x) (ownN y)=v at hd vx vy hbx hby
 cases hd with
 | refuse=>
  refine .refuse hv ?_ ?_
  ·unfold metN
   dsimp only
   rw [if_pos (show(verdictN x (ownN y)).1.kind=4 by rw [vx];rfl)]
  ·unfold metN
   dsimp only
   rw [if_pos (show(verdictN y (ownN x)).1.kind=4 by rw [vy];rfl)]
 | none hi1 hi2 hcur hm1 hm2 _=>
  have h1:=met_lnk (h:=ownN y) ox ux lx (by rw [vx])
  have h2:=met_lnk (h:=ownN x) oy uy ly (by rw [vy])
  have hcur:x.store.sup.vector.current=y.store.sup.vector.current:=hcur
  exact .none hv h1.1 h2.1 h1.2.2.2 h2.2.2.2 (by rw [h1.2.2.1,h2.2.2.1];exact hcur) (h1.2.1.trans hm1) (h2.2.1.trans hm2)
 | onto0 k hk _ _ _=>
  obtain ⟨b1,b2⟩:=bits k 0 hk
  have h1:=met_src (h:=ownN y) ux lx (by rw [vx];show k≠4;omega) (by rw [vx];show k≠1;omega) (by rw [vx];exact ix.symm) (by rw [vx];exact b2)
  have h2:=met_tgt (h:=ownN x) oy h64 uy ly (by rw [vy];show k≠4;omega) (by rw [vy];show k≠1;omega) (by rw [vy];show(0:Int)≠y.id;omega) (by rw [vy];show maskR (orM y.store.mask (bitsV ⟨k,0⟩ (ownN x) (ownN y))).toNat B=true;rw [← b1];exact b2) (by rw [vy];exact hby) (own_w ox) cx
  refine .onto0 k hv hk h1.1 h2.1 ?_ h1.2.2.1
  rw [h1.2.1,h2.2,vx,vy]
  exact b1
 | onto1 k hk _ _ _=>
  obtain ⟨b1,b2⟩:=bits k 1 hk
  have h1:=met_tgt (h:=ownN y) ox h64 ux lx (by rw [vx];show k≠4;omega) (by rw [vx];show k≠1;omega) (by rw [vx];show(1:Int)≠x.id;omega) (by rw [vx];exact b2) (by rw [vx];exact hbx) (own_w oy) cy
  have h2:=met_src (h:=ownN x) uy ly (by rw [vy];show k≠4;omega) (by rw [vy];show k≠1;omega) (by rw [vy];exact iy.symm) (by rw [vy];show maskR (orM y.store.mask (bitsV ⟨k,1⟩ (ownN x) (ownN y))).toNat B=true;rw [← b1];exact b2)
  refine .onto1 k hv hk h1.1 h2.1 ?_ h2.2.2.1
  rw [h1.2,h2.2.1,vx,vy]
  exact b1
theorem own_right {B:Int} {N:Nat} {n:Node} (o:OkN N n) (u:UpS B n.store) (p:PI n):hRight (ownN n)=true:=by
 have hc:=cur_ne (sup_right u o.sup)
 have hm:maskR n.store.mask n.store.sup.blocks=true:=by
  have:=u.mb
  rw [(u32_toNat o.st.m).2] at this
  rw [u.bl]
  exact this
 unfold hRight
 show((n.store.sup.vector.current != 0)&&(maskR n.store.mask n.store.sup.blocks&&(!n.primary||(!(n.store.sup.pri && !n.primary) && !n.store.sup.inc))))=true
 rw [hm,bne_iff_ne.2 hc]
 cases hp:n.primary with
 | false=>rfl
 | true=>
  rw [p.p1 hp]
  cases n.store.sup.pri <;> rfl
theorem begin_says {B:Int} {N:Nat} {n:Node} {s:Int} (o:OkN N n) (u:UpS B n.store) (p:PI n) (hs:inK .u64 s) :
  ∃ d,(beginN n s).2=[⟨1,n.id,0,0,d⟩]∧d.length≤200∧readP d s=(⟨1,s,ownN n,0,[]⟩,0):=by
 have hr:pRight ⟨1,s,ownN n,0,[]⟩=true:=by
  unfold pRight pHel pBlk pTail
  show(true&&(hRight (ownN n)&&(true&&true)))=true
  rw [own_right o u p]
  rfl
 refine⟨(encP ⟨1,s,ownN n,0,[]⟩).1,rfl,encP_len,?_⟩
 rw [encP_t hr]
 unfold readP
 rw [decP_encP (p:=⟨1,s,ownN n,0,[]⟩) (own_w o) hs hr,if_pos rfl,if_pos rfl]
end Gm

set_option maxRecDepth 100000
namespace Gm
open Go
theorem diskSame_ok {d:Disk} (h1:d.sure.length≤1000000) (h2:d.cache.length≤1000000) {K:Bool->Prop} (k:K true):q162.F d d K:=by
 unfold q162.F
 refine cond_f (by simp) (cond_f (by simp) (cond_f (by simp) (cond_f (by simp) ?_)))
 refine loop_ok (I:=fun x:q162.L0=>∃ j:Nat,j≤d.sure.length∧x=⟨j,d,d⟩) (m:=fun x:q162.L0=>d.sure.length - x.i.toNat) ?_ ⟨0,by omega,rfl⟩
 rintro _ ⟨j,hj,rfl⟩ rec hrec
 unfold q162.b0
 dsimp only
 refine cond_ok (fun h=>?_) (fun _=>?_)
 ·have hlt:=lt_of_dec h
  rw [wrap_lt hlt (by unfold big;omega)]
  exact oget_ok (getI_ok hlt) (oget_ok (getI_ok hlt) (cond_f (by simp) (hrec _ ⟨j+1,hlt,rfl⟩ (by dsimp only;omega))))
 ·refine loop_ok (I:=fun x:q162.L2=>∃ j:Nat,j≤d.cache.length∧x=⟨j,d,d⟩) (m:=fun x:q162.L2=>d.cache.length - x.i.toNat) ?_ ⟨0,by omega,rfl⟩
  rintro _ ⟨j,hj,rfl⟩ rec hrec
  unfold q162.b2
  dsimp only
  refine cond_ok (fun h=>?_) (fun _=>k)
  have hlt:=lt_of_dec h
  rw [wrap_lt hlt (by unfold big;omega)]
  exact oget_ok (getI_ok hlt) (oget_ok (getI_ok hlt) (cond_f (by simp) (hrec _ ⟨j+1,hlt,rfl⟩ (by dsimp only;omega))))
theorem storeSame_ok {s:Store} (h1:s.disk.sure.length≤1000000) (h2:s.disk.cache.length≤1000000) {K:Bool->Prop} (k:K true):q163.F s s K:=by
 unfold q163.F q163.FV
 refine diskSame_ok h1 h2 (cond_t rfl (cond_t (by simp) ?_))
 rw [beq_self_eq_true]
 exact k
theorem drawsSame_ok {l:List Int} (h:l.length≤1000000) {K:Bool->Prop} (k:K true):q164.F l l K:=by
 unfold q164.F
 refine cond_f (by simp) ?_
 refine loop_ok (I:=fun x:q164.L0=>∃ j:Nat,j≤l.length∧x=⟨l,l,j⟩) (m:=fun x:q164.L0=>l.length - x.i.toNat) ?_ ⟨0,by omega,rfl⟩
 rintro _ ⟨j,hj,rfl⟩ rec hrec
 unfold q164.b0
 dsimp only
 refine cond_ok (fun h=>?_) (fun _=>k)
 have hlt:=lt_of_dec h
 rw [wrap_lt hlt (by unfold big;omega)]
 exact oget_ok (getI_ok hlt) (oget_ok (getI_ok hlt) (cond_f (by simp) (hrec _ ⟨j+1,hlt,rfl⟩ (by dsimp only;omega))))
theorem mintsSame_ok {l:List Mint} (h:l.length≤1000000) {K:Bool->Prop} (k:K true):q165.F l l K:=by
 unfold q165.F
 refine cond_f (by simp) ?_
 refine loop_ok (I:=fun x:q165.L0=>∃ j:Nat,j≤l.length∧x=⟨l,l,j⟩) (m:=fun x:q165.L0=>l.length - x.i.toNat) ?_ ⟨0,by omega,rfl⟩
 rintro _ ⟨j,hj,rfl⟩ rec hrec
 unfold q165.b0
 dsimp only
 refine cond_ok (fun h=>?_) (fun _=>k)
 have hlt:=lt_of_dec h
 rw [wrap_lt hlt (by unfold big;omega)]
 exact oget_ok (getI_ok hlt) (oget_ok (getI_ok hlt) (cond_f (by simp) (hrec _ ⟨j+1,hlt,rfl⟩ (by dsimp only;omega))))
theorem outsSame_ok {l:List Outp} (h:l.length≤1000000) {K:Bool->Prop} (k:K true):q193.F l l K:=by
 unfold q193.F
 refine cond_f (by simp) ?_
 refine loop_ok (I:=fun x:q193.L0=>∃ j:Nat,j≤l.length∧x=⟨l,l,j⟩) (m:=fun x:q193.L0=>l.length - x.i.toNat) ?_ ⟨0,by omega,rfl⟩
 rintro _ ⟨j,hj,rfl⟩ rec hrec
 unfold q193.b0
 dsimp only
 refine cond_ok (fun h=>?_) (fun _=>k)
 have hlt:=lt_of_dec h
 rw [wrap_lt hlt (by unfold big;omega)]
 exact oget_ok (getI_ok hlt) (oget_ok (getI_ok hlt) (cond_f (by simp) (hrec _ ⟨j+1,hlt,rfl⟩ (by dsimp only;omega))))
theorem nodeSame_ok {N:Nat} {n:Node} (hN:N≤1000000) (o:OkN N n) {K:Bool->Prop} (k:K true):q166.F n n K:=by
 unfold q166.F q166.FV
 have h1:=o.st.d.s
 have h2:=o.st.d.c
 have h3:=o.dl
 have h4:=o.ml
 refine storeSame_ok (by omega) (by omega) (cond_f rfl (drawsSame_ok (by omega) (cond_f rfl (mintsSame_ok (by omega) (cond_f rfl ?_)))))
 refine cond_t (by simp) (cond_t (by simp) (cond_t (by simp) (cond_t (by simp) (cond_t (by simp) (cond_t (by simp) (cond_t (by simp) (cond_t (by simp) (cond_t (by simp) (cond_t (by simp) (cond_t (by simp) ?_))))))))))
 rw [beq_self_eq_true]
 exact k
theorem ctz_bits {m:Nat} (h0:m≠0) (h:m < 2 ^ 32):Lib.ctz 32 m < 32∧m.testBit (Lib.ctz 32 m)=true∧∀ j,j < Lib.ctz 32 m->m.testBit j=false:=by
 have e:Lib.ctz 32 m=Lib.ctzFrom 32 m:=by unfold Lib.ctz;rw [if_neg h0]
 obtain ⟨q,h1,h2⟩:=Lib.ctzFrom_spec 32 m (by omega) h
 rw [e]
 generalize Lib.ctzFrom 32 m=c at h1 h2 ⊢
 subst h1
 refine⟨h2,?_,fun j hj=>?_⟩
 ·rw [Nat.mul_comm,Nat.testBit_mul_two_pow]
  simp [Nat.testBit_zero]
 ·rw [Nat.mul_comm,Nat.testBit_mul_two_pow]
  simp only [show ¬ (c≤j) by omega,decide_false,Bool.false_and]
theorem Next_ok {m:Int} (hm:inK .u32 m) {K:(Int×Bool)->Prop} (k:K (nextM m)):q154.F m 0 K:=by
 obtain ⟨h1,h2⟩:=u32_toNat hm
 have e:ishl .u32 (ishr .u32 m (maxI2 0 0)) (maxI2 0 0)=m:=by
  have hr:ishr .u32 m (maxI2 0 0)=m:=by
   show m.fdiv (2 ^ 0)=m
   simp
  rw [hr]
  show IntKind.u32.wrap (m * 2 ^ 0)=m
  rw [wrap_u32]
  have:(0:Int)≤m∧m≤4294967295:=hm
  omega
 unfold q154.F q154.FV
 rw [e]
 refine cond_f (by decide) (cond_t (by decide) (cond_t (by decide) (cond_ok (fun h=>?_) (fun h=>?_))))
 ·have h:m=0:=eq_t h
  subst h
  exact use_eq k (next_none (fun j _=>by simp))
 ·have h:=eq_f h
  obtain ⟨c1,c2,c3⟩:=ctz_bits (m:=m.toNat) (by omega) (by simpa using h1)
  unfold math_bits_TrailingZeros32.F
  have h0:0≤m:=hm.1
  refine cond_t (by simp;omega) ?_
  exact use_eq k (next_at c1 c2 c3)
end Gm

set_option maxRecDepth 100000
namespace Gm
open Go
theorem Retire_ok {v:Vec} {K:Vec->Prop} (k:K (retire v)):q155.F v K:=by
 unfold q155.F
 unfold retire at k
 refine cond_ok (fun h=>?_) (fun h=>?_)
 ·rw [if_neg (ne_t h)] at k;exact k
 ·rw [if_pos (ne_f h)] at k;exact k
section
variable {N:Nat} {n:Node} (hN:N≤6900) (h64:64≤N) (o:OkN N n)
include hN h64 o
omit hN h64 o in
theorem next_wrap {m:Int}:IntKind.i64.wrap ((nextM m).1+1)=(nextM m).1+1:=by
 have:=next_bound m
 exact wrap_i64 (by omega)
theorem SeekP_ok {K:NO->Prop} (k:K (seekN n)):q161.F n K:=by
 unfold q161.F q161.FV
 unfold seekN commitN keepN at k
 dsimp only at k
 refine cond_ok (fun h=>?_) (fun h=>?_)
 ·rw [if_pos (.inl (not_t h))] at k;exact k
 refine cond_ok (fun h2=>?_) (fun h2=>?_)
 ·rw [if_pos (.inr (ne_t h2))] at k;exact k
 rw [if_neg (fun e=>e.elim (nf (not_f h)) (fun e=>e (ne_f h2)))] at k
 refine Next_ok o.st.m (cond_ok (fun h3=>?_) (fun h3=>?_))
 ·rw [if_pos h3] at k
  rw [next_wrap]
  refine packet_Encode_ok (by exact wZH) (by exact o.se) (gd_ok out1 ?_)
  exact k
 ·rw [if_neg (nt h3)] at k
  refine Retire_ok (storeCommit_ok (b:=⟨n.store.sup.blocks,retire n.peer.vector,false,false,false⟩) (by omega) h64 o.st ⟨o.st.b,retire_vec o.pe.2.1⟩ (cond_ok (fun h=>?_) (fun h=>?_)))
  ·have h:=ne_t h
   rw [if_neg h] at k
   exact nodeDown_ok (cond_f (ne0 h) k)
  ·have h:=ne_f h
   rw [if_pos h] at k
   refine cond_t (eq0 h) (packet_Encode_ok (by exact wZH) (by exact o.se) (gd_ok out1 ?_))
   exact k
end
end Gm

set_option maxRecDepth 100000
namespace Gm
open Go
def evS:List Event:=[⟨1,0,0,0,[],0,[]⟩,⟨13,0,0,0,[],9,[]⟩,⟨5,0,1,1,d8,0,[]⟩,⟨6,0,0,0,[],0,[]⟩,⟨6,1,0,0,[],0,[]⟩,⟨9,0,0,0,[],0,[]⟩,⟨9,1,0,0,[],0,[]⟩]
def z8:Str:=[122,122,122,122,122,122,122,122]
def srcN:Node:=(reachC 1 evS).n0
def gv:NO:=giveN srcN 1
theorem okO_len {a:Nat} {l:List Outp} (h:OkO a l) (ha:a≤1000):l.length≤1000000:=by have:=h.1;omega
end Gm

set_option maxRecDepth 100000
namespace Gm
open Go
theorem Place_ok {v:Vec} {g:Int} {K:Int->Prop} (h:K (place v g)):q176.F v g K:=by
 unfold q176.F q176.FV
 unfold place at h
 refine cond_ok (fun h0=>?_) (fun h0=>?_)
 ·rw [if_pos (eq_t h0)] at h;exact h
 rw [if_neg (eq_f h0)] at h
 unfold q175.F
 have w0:IntKind.i64.wrap ((0:Int)+1)=1:=rfl
 have w1:IntKind.i64.wrap ((1:Int)+1)=2:=rfl
 have w2:IntKind.i64.wrap ((2:Int)+1)=3:=rfl
 have w3:IntKind.i64.wrap ((3:Int)+1)=4:=rfl
 refine⟨5,round1 ?_⟩
 unfold q175.b0
 refine cond_t rfl (oget_ok (v:=v.current) rfl (cond_ok (fun h1=>?_) (fun h1=>?_)))
 ·rw [if_pos (eq_t h1).symm] at h;exact h
 rw [if_neg (fun e=>eq_f h1 e.symm)] at h
 rw [w0]
 refine round1 (cond_t rfl (oget_ok (v:=v.bitmap) rfl (cond_ok (fun h2=>?_) (fun h2=>?_))))
 ·rw [if_pos (eq_t h2).symm] at h;exact h
 rw [if_neg (fun e=>eq_f h2 e.symm)] at h
 rw [w1]
 refine round1 (cond_t rfl (oget_ok (v:=v.old0) rfl (cond_ok (fun h3=>?_) (fun h3=>?_))))
 ·rw [if_pos (eq_t h3).symm] at h;exact h
 rw [if_neg (fun e=>eq_f h3 e.symm)] at h
 rw [w2]
 refine round1 (cond_t rfl (oget_ok (v:=v.old1) rfl (cond_ok (fun h4=>?_) (fun h4=>?_))))
 ·rw [if_pos (eq_t h4).symm] at h;exact h
 rw [if_neg (fun e=>eq_f h4 e.symm)] at h
 rw [w3]
 exact round1 (cond_f rfl h)
theorem Has1_ok {v:Vec} {g:Int} {K:Bool->Prop} (h:K (!decide (place v g < 0))):q177.F v [g] K:=by
 unfold q177.F q177.FV
 refine cond_t rfl (oget_ok (v:=g) rfl (Place_ok (cond_ok (fun h1=>?_) (fun h1=>?_))))
 ·rw [h1] at h;exact h
 ·rw [h1] at h;exact cond_f rfl h
theorem ior_orM {a b:Int} (ha:inK .u32 a) (hb:inK .u32 b):ior .u32 a b=orM a b:=by
 obtain ⟨a1,a2⟩:=u32_toNat ha
 obtain ⟨b1,b2⟩:=u32_toNat hb
 have:=ior_nat (k:=.u32) rfl (x:=a.toNat) (y:=b.toNat) (by exact a1) (by exact b1)
 rw [a2,b2] at this
 exact this
theorem orM_zero {a:Int} (ha:inK .u32 a):orM 0 a=a:=by
 unfold orM
 rw [show (0:Int).toNat=0 from rfl,Nat.zero_or]
 exact(u32_toNat ha).2
theorem Union_ok {a b:Int} (ha:inK .u32 a) (hb:inK .u32 b) {K:Int->Prop} (h:K (orM a b)):q181.F [a,b] K:=by
 unfold q181.F
 refine⟨3,round1 ?_⟩
 unfold q181.b0
 refine cond_t rfl (oget_ok (v:=a) rfl (round1 ?_))
 dsimp only
 rw [ior_orM u32_zero ha,orM_zero ha]
 refine cond_t rfl (oget_ok (v:=b) rfl (round1 ?_))
 dsimp only
 rw [ior_orM ha hb]
 exact cond_f rfl h
theorem or_nil {a b:Int} (ha:inK .u32 a) (hb:inK .u32 b):orM a b=0↔a=0∧b=0:=by
 obtain ⟨_,a2⟩:=u32_toNat ha
 obtain ⟨_,b2⟩:=u32_toNat hb
 unfold orM
 constructor
 ·intro h
  have h:a.toNat ||| b.toNat=0:=by omega
  have:=Nat.or_eq_zero_iff.1 h
  omega
 ·rintro ⟨rfl,rfl⟩
  rfl
theorem from0 {x y:Hello} {K:Hello->Prop} (k:K x):q173.F ⟨x,y,0⟩ K:=cond_t rfl k
theorem from1 {x y:Hello} {K:Hello->Prop} (k:K y):q173.F ⟨x,y,1⟩ K:=cond_f rfl (cond_t rfl k)
theorem onto0 {x y:Hello} {K:Hello->Prop} (k:K y):q174.F ⟨x,y,0⟩ K:=cond_f rfl (cond_t rfl k)
theorem onto1 {x y:Hello} {K:Hello->Prop} (k:K x):q174.F ⟨x,y,1⟩ K:=cond_t rfl k
def kindP (r:Int):Int:=if r=2∨r=3 then 3 else if r=0∨r=1 then 2 else 4
theorem kindR {r:Int} {K:Int->Prop} (k:K (kindP r)):bif r==2 then K 3 else bif r==3 then K 3 else bif r==0 then K 2 else bif r==1 then K 2 else K 4:=by
 unfold kindP at k
 refine cond_ok (fun h=>?_) (fun h2=>cond_ok (fun h=>?_) (fun h3=>cond_ok (fun h=>?_) (fun h0=>cond_ok (fun h=>?_) (fun h1=>?_))))
 ·rw [if_pos (.inl (eq_t h))] at k;exact k
 ·rw [if_pos (.inr (eq_t h))] at k;exact k
 all_goals rw [if_neg (fun e=>e.elim (eq_f h2) (eq_f h3))] at k
 ·rw [if_pos (.inl (eq_t h))] at k;exact k
 ·rw [if_pos (.inr (eq_t h))] at k;exact k
 ·rw [if_neg (fun e=>e.elim (eq_f h0) (eq_f h1))] at k;exact k
theorem kind0 {x y:Hello} {K:Int->Prop} (k:K (kindP (place x.vector y.vector.current))):q178.F ⟨x,y,0⟩ K:=by
 unfold q178.F q178.FV
 refine from0 (onto0 (Place_ok ?_))
 exact kindR k
theorem kind1 {x y:Hello} {K:Int->Prop} (k:K (kindP (place y.vector x.vector.current))):q178.F ⟨x,y,1⟩ K:=by
 unfold q178.F q178.FV
 refine from1 (onto1 (Place_ok ?_))
 exact kindR k
theorem half_kindP (s t:Hello):halfV s t=if s.dis=true then 4 else if place s.vector t.vector.bitmap≥0 then 2 else if t.dis=true then 3 else kindP (place s.vector t.vector.current):=by
 have hp:=place_le s.vector t.vector.current
 unfold halfV kindP
 split
 ·rfl
 split
 ·rfl
 split
 ·rfl
 generalize place s.vector t.vector.current=r at hp ⊢
 repeat' split
 all_goals first
  | rfl
  | (exfalso;omega)
theorem halfR {s t:Hello} {Q:(Int->Prop)->Prop} (hq:∀ K,K (kindP (place s.vector t.vector.current))->Q K) {K:Int->Prop} (k:K (halfV s t)) :
  bif s.dis then K 4 else q177.F s.vector [t.vector.bitmap] fun r3=>bif r3 then K 2 else bif t.dis then K 3 else Q fun r4=>K r4:=by
 rw [half_kindP] at k
 refine cond_ok (fun h=>?_) (fun h1=>Has1_ok (cond_ok (fun h=>?_) (fun h2=>cond_ok (fun h=>?_) (fun h3=>?_))))
 ·rw [if_pos h] at k;exact k
 all_goals rw [if_neg (nt h1)] at k
 ·have h:¬ place s.vector t.vector.bitmap < 0:=of_decide_eq_false (not_t h)
  rw [if_pos (by omega)] at k;exact k
 all_goals
  have h2:place s.vector t.vector.bitmap < 0:=of_decide_eq_true (not_f h2)
  rw [if_neg (by omega)] at k
 ·rw [if_pos h] at k;exact k
 ·rw [if_neg (nt h3)] at k;exact hq _ k
theorem half0 {x y:Hello} {K:Int->Prop} (k:K (halfV x y)):q179.F ⟨x,y,0⟩ K:=by
 unfold q179.F q179.FV
 refine from0 (onto0 ?_)
 exact halfR (Q:=fun K=>q178.F ⟨x,y,0⟩ K) (fun _ k=>kind0 k) k
theorem half1 {x y:Hello} {K:Int->Prop} (k:K (halfV y x)):q179.F ⟨x,y,1⟩ K:=by
 unfold q179.F q179.FV
 refine from1 (onto1 ?_)
 exact halfR (Q:=fun K=>q178.F ⟨x,y,1⟩ K) (fun _ k=>kind1 k) k
theorem tellR {kind source:Int} {t:Hello} {K:Verdict->Prop} (k:K (ontoV kind source t)):(kind==4)=true->K ⟨4,-1⟩:=by
 intro h
 unfold ontoV noVer at k
 rw [if_pos (.inr (eq_t h))] at k
 exact k
theorem tellS {kind source:Int} {t:Hello} {K:Verdict->Prop} (k:K (ontoV kind source t)) (h4:(kind==4)=false):bif t.pri then K ⟨4,-1⟩ else K ⟨kind,source⟩:=by
 unfold ontoV noVer at k
 refine cond_ok (fun h=>?_) (fun h=>?_)
 ·rw [if_pos (.inl h)] at k;exact k
 ·rw [if_neg (fun e=>e.elim (nt h) (eq_f h4))] at k;exact k
theorem tell0 {x y:Hello} {kind:Int} {K:Verdict->Prop} (k:K (ontoV kind 0 y)):q180.F ⟨x,y,0⟩ kind K:=by
 unfold q180.F q180.FV
 refine cond_ok (fun h=>tellR k h) (fun h=>onto0 ?_)
 exact tellS k h
theorem tell1 {x y:Hello} {kind:Int} {K:Verdict->Prop} (k:K (ontoV kind 1 x)):q180.F ⟨x,y,1⟩ kind K:=by
 unfold q180.F q180.FV
 refine cond_ok (fun h=>tellR k h) (fun h=>onto1 ?_)
 exact tellS k h
theorem alikeR {x y:Hello} (hx:wHello x) (hy:wHello y) (hp:¬ (x.pri=true∧y.pri=true)) {K:Verdict->Prop} (k:K (sameGen x y)):q182.F x y K:=by
 unfold q182.F q182.FV
 unfold sameGen at k
 refine Union_ok hx.2.2 hy.2.2 (cond_ok (fun h=>?_) (fun h0=>?_))
 ·rw [if_pos ((or_nil hx.2.2 hy.2.2).1 (eq_t h))] at k;exact k
 rw [if_neg (fun e=>eq_f h0 ((or_nil hx.2.2 hy.2.2).2 e))] at k
 refine cond_ok (fun hxp=>?_) (fun hxp=>cond_ok (fun hyp=>?_) (fun hyp=>cond_ok (fun hw=>cond_ok (fun hxw=>?_) (fun hxw=>?_)) (fun hw=>?_)))
 ·rw [if_neg (fun e=>e.elim (fun e=>hp ⟨hxp,e⟩) (fun e=>nf hxp e.1))] at k;exact tell0 k
 ·rw [if_pos (.inl hyp)] at k;exact tell1 k
 ·rw [if_pos (.inr ⟨hxp,hw,not_t hxw⟩)] at k;exact tell1 k
 ·rw [if_neg (fun e=>e.elim (nt hyp) (fun e=>nf (not_f hxw) e.2.2))] at k;exact tell0 k
 ·rw [if_neg (fun e=>e.elim (nt hyp) (fun e=>nt hw e.2.1))] at k;exact tell0 k
theorem only_ff {K:Int->Prop} (k:K (-1)):q172.F false false K:=k
theorem gensR {x y:Hello} (hc:x.vector.current≠y.vector.current) {K:Verdict->Prop} (k:K (byGens x y)) :
  q177.F x.vector [y.vector.current] fun r11=>q177.F y.vector [x.vector.current] fun r12=>q172.F r11 r12 fun r13=>
   bif r13==(-1)then(q171.F fun r14=>K r14)else(q178.F ⟨x,y,r13⟩ fun r15=>q180.F ⟨x,y,r13⟩ r15 fun r16=>K r16):=by
 have key:∀ (v:Vec) (g:Int),v.current≠g->place v g≠0:=by
  intro v g h
  unfold place
  repeat' split
  all_goals first
   | decide
   | (rename_i e;exact(h e).elim)
 have p1:=place_le x.vector y.vector.current
 have p2:=place_le y.vector x.vector.current
 have q1:=key x.vector y.vector.current hc
 have q2:=key y.vector x.vector.current (fun e=>hc e.symm)
 have kk:∀ p:Int,p > 0->p≤3->kindsV p=kindP p:=by
  intro p h1 h2
  unfold kindsV kindP
  repeat' split
  all_goals first
   | rfl
   | (exfalso;omega)
 refine Has1_ok (Has1_ok ?_)
 unfold byGens at k
 by_cases h1:place x.vector y.vector.current < 0
 ·by_cases h2:place y.vector x.vector.current < 0
  ·rw [if_neg (by omega),if_neg (by omega)] at k
   rw [decide_eq_true h1,decide_eq_true h2]
   exact k
  ·rw [if_neg (by omega),if_pos (by omega),kk _ (by omega) p2.1] at k
   rw [decide_eq_true h1,decide_eq_false h2]
   show q178.F ⟨x,y,1⟩ fun r15=>q180.F ⟨x,y,1⟩ r15 fun r16=>K r16
   refine kind1 ?_
   exact tell1 k
 ·by_cases h2:place y.vector x.vector.current < 0
  ·rw [if_pos (by omega),kk _ (by omega) p1.1] at k
   rw [decide_eq_false h1,decide_eq_true h2]
   show q178.F ⟨x,y,0⟩ fun r15=>q180.F ⟨x,y,0⟩ r15 fun r16=>K r16
   refine kind0 ?_
   exact tell0 k
  ·rw [if_neg (by omega),if_neg (by omega)] at k
   rw [decide_eq_false h1,decide_eq_false h2]
   exact k
theorem restR {x y:Hello} (hx:wHello x) (hy:wHello y) (hp:¬ (x.pri=true∧y.pri=true)) (hi:¬ (x.inc=true∧y.inc=true)) (hd:¬ (x.dis=true∧y.dis=true)) {K:Verdict->Prop}
  (k:K (if x.inc=true then ontoV (halfV y x) 1 x else if y.inc=true then ontoV (halfV x y) 0 y else if x.dis=true then ontoV 3 1 x else if y.dis=true then ontoV 3 0 y else noHalf x y)) :
  q172.F x.inc y.inc fun r5=>bif r5 != (-1)then(q179.F ⟨x,y,IntKind.i64.wrap (1 - r5)⟩ fun r6=>q180.F ⟨x,y,IntKind.i64.wrap (1 - r5)⟩ r6 fun r7=>K r7)
   else(q172.F x.dis y.dis fun r8=>bif r8 != (-1)then(q180.F ⟨x,y,IntKind.i64.wrap (1 - r8)⟩ 3 fun r9=>K r9)
    else bif x.vector.current==y.vector.current then(q182.F x y fun r10=>K r10)
     else(q177.F x.vector [y.vector.current] fun r11=>q177.F y.vector [x.vector.current] fun r12=>q172.F r11 r12 fun r13=>
      bif r13==(-1)then(q171.F fun r14=>K r14)else(q178.F ⟨x,y,r13⟩ fun r15=>q180.F ⟨x,y,r13⟩ r15 fun r16=>K r16))):=by
 cases hxi:x.inc with
 | true=>
  cases hyi:y.inc with
  | true=>exact(hi ⟨hxi,hyi⟩).elim
  | false=>
   rw [if_pos hxi] at k
   show q179.F ⟨x,y,1⟩ fun r6=>q180.F ⟨x,y,1⟩ r6 fun r7=>K r7
   refine half1 ?_
   exact tell1 k
 | false=>
  rw [if_neg (nt hxi)] at k
  cases hyi:y.inc with
  | true=>
   rw [if_pos hyi] at k
   show q179.F ⟨x,y,0⟩ fun r6=>q180.F ⟨x,y,0⟩ r6 fun r7=>K r7
   refine half0 ?_
   exact tell0 k
  | false=>
   rw [if_neg (nt hyi)] at k
   refine only_ff (cond_f rfl ?_)
   cases hxd:x.dis with
   | true=>
    cases hyd:y.dis with
    | true=>exact(hd ⟨hxd,hyd⟩).elim
    | false=>
     rw [if_pos hxd] at k
     show q180.F ⟨x,y,1⟩ 3 fun r9=>K r9
     exact tell1 k
   | false=>
    rw [if_neg (nt hxd)] at k
    cases hyd:y.dis with
    | true=>
     rw [if_pos hyd] at k
     show q180.F ⟨x,y,0⟩ 3 fun r9=>K r9
     exact tell0 k
    | false=>
     rw [if_neg (nt hyd)] at k
     refine only_ff (cond_f rfl ?_)
     unfold noHalf at k
     refine cond_ok (fun h=>?_) (fun h=>?_)
     ·rw [if_pos (eq_t h)] at k;exact alikeR hx hy hp k
     ·rw [if_neg (eq_f h)] at k;exact gensR (eq_f h) k
theorem DecideP_ok {x y:Hello} (hx:wHello x) (hy:wHello y) {K:Verdict->Prop} (k:K (decideV x y)):q183.F x y K:=by
 rw [decide_of] at k
 unfold q183.F q183.FV
 refine cond_ok (fun h=>?_) (fun hb=>?_)
 ·rw [if_pos (.inl (ne_t h))] at k;exact k
 have hb:=ne_f hb
 by_cases hp:x.pri=true∧y.pri=true
 ·rw [if_pos (.inr (.inl hp))] at k
  exact cond_t hp.1 (cond_t hp.2 k)
 have st1:∀ {A B:Prop},B->(bif x.pri then(bif y.pri then A else B)else B):=by
  intro A B h
  cases h1:x.pri with
  | false=>exact h
  | true=>
   cases h2:y.pri with
   | false=>exact h
   | true=>exact(hp ⟨h1,h2⟩).elim
 refine st1 ?_
 by_cases hi:x.inc=true∧y.inc=true
 ·rw [if_pos (.inr (.inr (.inl hi)))] at k
  exact cond_t hi.1 (cond_t hi.2 k)
 have st2:∀ {A B:Prop},B->(bif x.inc then(bif y.inc then A else B)else B):=by
  intro A B h
  cases h1:x.inc with
  | false=>exact h
  | true=>
   cases h2:y.inc with
   | false=>exact h
   | true=>exact(hi ⟨h1,h2⟩).elim
 refine st2 ?_
 by_cases hd:x.dis=true∧y.dis=true
 ·rw [if_pos (.inr (.inr (.inr hd)))] at k
  exact cond_t hd.1 (cond_t hd.2 k)
 have st3:∀ {A B:Prop},B->(bif x.dis then(bif y.dis then A else B)else B):=by
  intro A B h
  cases h1:x.dis with
  | false=>exact h
  | true=>
   cases h2:y.dis with
   | false=>exact h
   | true=>exact(hd ⟨h1,h2⟩).elim
 refine st3 ?_
 rw [if_neg (fun e=>e.elim (fun e=>e hb) (fun e=>e.elim hp (fun e=>e.elim hi hd)))] at k
 exact restR hx hy hp hi hd k
theorem BitsP_ok {v:Verdict} {x y:Hello} (hx:wHello x) (hy:wHello y) {K:Int->Prop} (k:K (bitsV v x y)):q184.F v x y K:=by
 unfold q184.F q184.FV
 unfold bitsV at k
 refine cond_ok (fun h=>?_) (fun h2=>cond_ok (fun h=>?_) (fun h3=>?_))
 ·rw [if_pos (eq_t h)] at k;exact Union_ok hx.2.2 hy.2.2 k
 ·rw [if_neg (eq_f h2),if_pos (eq_t h)] at k;exact maskAll_ok hx.1 k
 ·rw [if_neg (eq_f h2),if_neg (eq_f h3)] at k;exact k
theorem OfP_ok {s:Super} {p:Bool} {m:Int} {K:Hello->Prop} (h:K (hOf s p m)):q168.F s p m K:=by
 unfold q168.F
 unfold hOf at h
 refine cond_ok (fun h1=>?_) (fun h1=>?_) <;> rw [h1] at h <;> exact h
section
variable {N:Nat} {n:Node} (hN:N≤6800) (h64:64≤N) (o:OkN N n)
include o
theorem BeginP_ok {s:Int} (hs:inK .u64 s) {K:NO->Prop} (k:K (beginN n s)):q169.F n s K:=by
 unfold q169.F q169.FV
 refine OfP_ok (packet_Encode_ok (by exact own_w o) (by exact hs) (gd_ok out1 ?_))
 exact k
include hN h64
theorem JoinP_ok {m:Int} (hm:inK .u32 m) {K:(Store×Int)->Prop} (k:K (stJoin n.store m)):q186.F n.store m K:=by
 unfold q186.F q186.FV
 unfold stJoin stSave at k
 refine Union_ok o.st.m hm (cond_ok (fun h1=>?_) (fun h1=>?_))
 ·rw [if_pos (eq_t h1)] at k;exact k
 rw [if_neg (eq_f h1)] at k
 have hu:=or_u32 o.st.m hm
 have:=bits_Save_ok (d:=n.store.disk) (m:=(orM n.store.mask m).toNat) (K:=fun r2=>bif r2.2==0 then K (⟨r2.1,n.store.sup,orM n.store.mask m⟩,r2.2)else K (⟨r2.1,n.store.sup,n.store.mask⟩,r2.2)) (u32_toNat hu).1 (by omega) h64 o.st.d (cond_ok (fun h2=>by
  rw [if_pos (eq_t h2)] at k;exact k) (fun h2=>by
  rw [if_neg (eq_f h2)] at k;exact k))
 rwa [(u32_toNat hu).2] at this
def afterV (n:Node) (h:Hello) (v:Verdict×Int):NO:=
 if v.1.kind=4 then(n,[closeO n])
 else if v.1.kind=1 then
  let c:=commitN n { n.store.sup with vector:=retire n.store.sup.vector,pri:=n.primary }
  (if c.2=true then enterN c.1 2 h else c.1,[])
 else
  let j:=keepN n (stJoin n.store v.2)
  if j.2=false then(j.1,[])
  else if v.1.source=n.id then(enterN j.1 3 h,[])
  else
   let c:=commitN j.1 { n.store.sup with inc:=true,pri:=false,vector:=fromVec n.store.sup.vector h.vector.current }
   if c.2=false then(c.1,[])else seekN (enterN c.1 4 h)
theorem afterV_ok {v:Verdict} {x y h:Hello} (hx:wHello x) (hy:wHello y) (hh:wHello h) {K:NO->Prop} (k:K (afterV n h (v,bitsV v x y))) :
  (bif(v.kind==4)then(bif(decide (([(⟨3,n.id,0,0,([]:Str)⟩:Outp)]:List Outp).length * 48≤room))then(K (n,([(⟨3,n.id,0,0,([]:Str)⟩:Outp)]:List Outp)))else False)else(bif(v.kind==1)then(q155.F n.store.sup.vector fun r20=>(q160.F n.store (⟨n.store.sup.blocks,r20,n.store.sup.inc,n.primary,n.store.sup.dis⟩:Super) fun r21=>(bif(r21.2 != 0)then(q151.F (⟨n.id,n.up,r21.1,n.primary,n.state,n.session,n.peer,n.peerPri,n.req,n.asking,n.askId,n.wanted,n.minted,n.draws,n.mints⟩:Node) fun r22=>(bif(r21.2==0)then(K ((⟨r22.id,r22.up,r22.store,r22.primary,2,r22.session,h,h.pri,r22.req,r22.asking,r22.askId,r22.wanted,r22.minted,r22.draws,r22.mints⟩:Node),([]:List Outp)))else(K (r22,([]:List Outp)))))else(bif(r21.2==0)then(K ((⟨n.id,n.up,r21.1,n.primary,2,n.session,h,h.pri,n.req,n.asking,n.askId,n.wanted,n.minted,n.draws,n.mints⟩:Node),([]:List Outp)))else(K ((⟨n.id,n.up,r21.1,n.primary,n.state,n.session,n.peer,n.peerPri,n.req,n.asking,n.askId,n.wanted,n.minted,n.draws,n.mints⟩:Node),([]:List Outp)))))))else(q184.F v x y fun r23=>(q186.F n.store r23 fun r24=>(bif(r24.2 != 0)then(q151.F (⟨n.id,n.up,r24.1,n.primary,n.state,n.session,n.peer,n.peerPri,n.req,n.asking,n.askId,n.wanted,n.minted,n.draws,n.mints⟩:Node) fun r25=>(bif(!(r24.2==0))then(K (r25,([]:List Outp)))else(bif(v.source==r25.id)then(K ((⟨r25.id,r25.up,r25.store,r25.primary,3,r25.session,h,h.pri,r25.req,r25.asking,r25.askId,r25.wanted,r25.minted,r25.draws,r25.mints⟩:Node),([]:List Outp)))else(q187.F r25.store.sup.vector h.vector.current fun r26=>(q160.F r25.store (⟨r25.store.sup.blocks,r26,true,false,r25.store.sup.dis⟩:Super) fun r27=>(bif(r27.2 != 0)then(q151.F (⟨r25.id,r25.up,r27.1,r25.primary,r25.state,r25.session,r25.peer,r25.peerPri,r25.req,r25.asking,r25.askId,r25.wanted,r25.minted,r25.draws,r25.mints⟩:Node) fun r28=>(bif(!(r27.2==0))then(K (r28,([]:List Outp)))else(q161.F (⟨r28.id,r28.up,r28.store,r28.primary,4,r28.session,h,h.pri,r28.req,r28.asking,r28.askId,r28.wanted,r28.minted,r28.draws,r28.mints⟩:Node) fun r29=>(K (r29.1,r29.2)))))else(bif(!(r27.2==0))then(K ((⟨r25.id,r25.up,r27.1,r25.primary,r25.state,r25.session,r25.peer,r25.peerPri,r25.req,r25.asking,r25.askId,r25.wanted,r25.minted,r25.draws,r25.mints⟩:Node),([]:List Outp)))else(q161.F (⟨r25.id,r25.up,r27.1,r25.primary,4,r25.session,h,h.pri,r25.req,r25.asking,r25.askId,r25.wanted,r25.minted,r25.draws,r25.mints⟩:Node) fun r30=>(K (r30.1,r30.2))))))))))else(bif(!(r24.2==0))then(K ((⟨n.id,n.up,r24.1,n.primary,n.state,n.session,n.peer,n.peerPri,n.req,n.asking,n.askId,n.wanted,n.minted,n.draws,n.mints⟩:Node),([]:List Outp)))else(bif(v.source==n.id)then(K ((⟨n.id,n.up,r24.1,n.primary,3,n.session,h,h.pri,n.req,n.asking,n.askId,n.wanted,n.minted,n.draws,n.mints⟩:Node),([]:List Outp)))else(q187.F r24.1.sup.vector h.vector.current fun r31=>(q160.F r24.1 (⟨r24.1.sup.blocks,r31,true,false,r24.1.sup.dis⟩:Super) fun r32=>(bif(r32.2 != 0)then(q151.F (⟨n.id,n.up,r32.1,n.primary,n.state,n.session,n.peer,n.peerPri,n.req,n.asking,n.askId,n.wanted,n.minted,n.draws,n.mints⟩:Node) fun r33=>(bif(!(r32.2==0))then(K (r33,([]:List Outp)))else(q161.F (⟨r33.id,r33.up,r33.store,r33.primary,4,r33.session,h,h.pri,r33.req,r33.asking,r33.askId,r33.wanted,r33.minted,r33.draws,r33.mints⟩:Node) fun r34=>(K (r34.1,r34.2)))))else(bif(!(r32.2==0))then(K ((⟨n.id,n.up,r32.1,n.primary,n.state,n.session,n.peer,n.peerPri,n.req,n.asking,n.askId,n.wanted,n.minted,n.draws,n.mints⟩:Node),([]:List Outp)))else(q161.F (⟨n.id,n.up,r32.1,n.primary,4,n.session,h,h.pri,n.req,n.asking,n.askId,n.wanted,n.minted,n.draws,n.mints⟩:Node) fun r35=>(K (r35.1,r35.2)))))))))))))):=by
 unfold afterV at k
 dsimp only at k
 refine cond_ok (fun h4=>?_) (fun h4=>?_)
 ·rw [if_pos (eq_t h4)] at k
  exact gd_ok out1 k
 rw [if_neg (eq_f h4)] at k
 refine cond_ok (fun h1=>?_) (fun h1=>?_)
 ·rw [if_pos (eq_t h1)] at k
  unfold commitN keepN at k
  refine Retire_ok (storeCommit_ok (b:={ n.store.sup with vector:=retire n.store.sup.vector,pri:=n.primary }) (by omega) h64 o.st ⟨o.st.b,retire_vec o.st.v⟩ (cond_ok (fun h=>?_) (fun h=>?_)))
  ·have h:=ne_t h
   rw [if_neg h] at k
   exact nodeDown_ok (cond_f (ne0 h) k)
  ·have h:=ne_f h
   rw [if_pos h] at k
   exact cond_t (eq0 h) k
 rw [if_neg (eq_f h1)] at k
 have hbits:inK .u32 (bitsV v x y):=by
  unfold bitsV
  split
  ·exact or_u32 hx.2.2 hy.2.2
  split
  ·exact all_u32 _
  ·exact u32_zero
 refine BitsP_ok hx hy (JoinP_ok hN h64 o hbits (cond_ok (fun h'=>?_) (fun h'=>?_)))
 ·have h':=ne_t h'
  have q:keepN n (stJoin n.store (bitsV v x y))=(downN (setSt n (stJoin n.store (bitsV v x y)).1),false):=by unfold keepN;rw [if_neg h']
  rw [q,if_pos rfl] at k
  exact nodeDown_ok (cond_t (by rw [ne0 h'];rfl) k)
 have h':=ne_f h'
 have q:keepN n (stJoin n.store (bitsV v x y))=(setSt n (stJoin n.store (bitsV v x y)).1,true):=by unfold keepN;rw [if_pos h']
 rw [q,if_neg (by simp)] at k
 have oj:OkS (N+1) (stJoin n.store (bitsV v x y)).1:=okS_join o.st h64 hbits
 have hsup:(stJoin n.store (bitsV v x y)).1.sup=n.store.sup:=join_sup _ _
 refine cond_f (by rw [eq0 h'];rfl) (cond_ok (fun hs=>?_) (fun hs=>?_))
 ·rw [if_pos (eq_t hs)] at k;exact k
 rw [if_neg (eq_f hs)] at k
 generalize (stJoin n.store (bitsV v x y)).1=s1 at oj hsup k ⊢
 rw [← hsup] at k
 have w:wSup { s1.sup with inc:=true,pri:=false,vector:=fromVec s1.sup.vector h.vector.current }:=⟨oj.b,from_vec oj.v hh.2.1.1⟩
 show q160.F s1 { s1.sup with inc:=true,pri:=false,vector:=fromVec s1.sup.vector h.vector.current } _
 refine storeCommit_ok (N:=N+1) (by omega) (by omega) oj w (cond_ok (fun hc=>?_) (fun hc=>?_))
 ·have hc:=ne_t hc
  have q2:commitN (setSt n s1) { s1.sup with inc:=true,pri:=false,vector:=fromVec s1.sup.vector h.vector.current } = (downN (setSt n (stCommit s1 { s1.sup with inc:=true,pri:=false,vector:=fromVec s1.sup.vector h.vector.current }).1),false):=by
   unfold commitN keepN
   exact if_neg hc
  rw [q2,if_pos rfl] at k
  exact nodeDown_ok (cond_t (by rw [ne0 hc];rfl) k)
 ·have hc:=ne_f hc
  have q2:commitN (setSt n s1) { s1.sup with inc:=true,pri:=false,vector:=fromVec s1.sup.vector h.vector.current } = (setSt n (stCommit s1 { s1.sup with inc:=true,pri:=false,vector:=fromVec s1.sup.vector h.vector.current }).1,true):=by
   unfold commitN keepN
   exact if_pos hc
  rw [q2,if_neg (by simp)] at k
  have oc:OkS (N+2) (stCommit s1 { s1.sup with inc:=true,pri:=false,vector:=fromVec s1.sup.vector h.vector.current }).1:=okS_commit oj (by omega) w
  have on:OkN (N+2) (enterN (setSt n (stCommit s1 { s1.sup with inc:=true,pri:=false,vector:=fromVec s1.sup.vector h.vector.current }).1) 4 h):=
   ⟨oc,o.se,hh,o.rq,Nat.le_trans o.dl (by omega),o.dg,Nat.le_trans o.ml (by omega),o.wa⟩
  exact cond_f (by rw [eq0 hc];rfl) (SeekP_ok (N:=N+2) (by omega) (by omega) on k)
theorem MetP_ok {h:Hello} (hid:n.id=0∨n.id=1) (hh:wHello h) {K:NO->Prop} (k:K (metN n h)):q188.F n h K:=by
 unfold q188.F q188.FV
 refine OfP_ok ?_
 have hw:wHello (ownN n):=own_w o
 have ev:metN n h=afterV n h (verdictN n h):=rfl
 rw [ev] at k
 unfold verdictN at k
 rcases hid with e | e
 ·rw [if_neg (show ¬ n.id=1 by omega),if_neg (show ¬ n.id=1 by omega)] at k
  refine cond_t (eq0 e) (DecideP_ok hw hh ?_)
  exact afterV_ok hN h64 o hw hh hh k
 ·rw [if_pos e,if_pos e] at k
  refine cond_f (by rw [e];rfl) (cond_t (by rw [e];rfl) (DecideP_ok hh hw ?_))
  exact afterV_ok hN h64 o hh hw hh k
end
end Gm

set_option maxRecDepth 100000
namespace Gm
open Go
theorem ref19Own_ok {n:Node} {K:Hello->Prop} (k:K (ownN n)):q170.F n K:=by
 unfold q170.F q170.FV
 exact own_ok k
theorem ref19Begin_ok {N:Nat} {n:Node} {s:Int} (o:OkN N n) (hs:inK .u64 s) {K:NO->Prop} (k:K (beginN n s)):q192.F n s K:=by
 unfold q192.F q192.FV
 exact begin_ok o hs k
theorem ref19Met_ok {N:Nat} {n:Node} {h:Hello} (hN:N≤6000) (h64:64≤N) (o:OkN N n) (hh:wHello h) {K:NO->Prop} (k:K (metN n h)):q195.F n h K:=by
 unfold q195.F q195.FV
 exact met_ok (by omega) h64 o hh k
theorem Side19_ok {c:Case} {K:Int->Prop} (k:K (bI c.side)):q190.F c K:=by
 unfold q190.F
 cases h:c.side <;> rw [h] at k
 ·exact k
 ·exact k
theorem Node19_ok {c:Case} (h0:0≤c.blocks) (hl:c.l.length≤100) (he:∀ e∈c.l,OkE e) {K:(Node×Bool)->Prop}
  (k1:(nodeC (reachC c.blocks c.l) c.side).up=true->(nodeC (reachC c.blocks c.l) c.side).state=0->K (nodeC (reachC c.blocks c.l) c.side,true)) (k2:∀ n,K (n,false)):q191.F c K:=by
 have key:∀ n:Node,(n.up=true->n.state=0->K (n,true))->(bif n.up then K (n,n.state==0)else K (n,false)):=by
  intro n h
  refine cond_ok (fun hu=>?_) (fun _=>k2 n)
  cases e:(n.state==0) with
  | true=>exact h hu (eq_t e)
  | false=>exact k2 n
 unfold q191.F q191.FV
 refine Reach_ok h0 hl he (Side19_ok ?_)
 cases h:c.side <;> rw [h] at k1
 ·exact cond_t rfl (key _ k1)
 ·exact cond_f rfl (cond_t rfl (key _ k1))
def evW:List Event:=[⟨1,0,0,0,[],0,[]⟩,⟨13,0,0,0,[],9,[]⟩,⟨5,0,1,1,d8,0,[]⟩]
theorem evW_ok:∀ e∈evW,OkE e:=by
 intro e h
 simp only [evW,List.mem_cons,List.not_mem_nil,or_false] at h
 rcases h with rfl | rfl | rfl
 ·exact okE_lit u64_0
 ·exact okE_lit ⟨by decide,by decide⟩
 ·exact⟨u64_0,by decide,by decide⟩
theorem ev0_ok:∀ e∈([]:List Event),OkE e:=fun e h=>by cases h
def c0N:Cluster:=reachC 1 []
def cWN:Cluster:=reachC 1 evW
theorem oC0:OkC 64 c0N:=okC_reach (b:=1) ev0_ok
theorem oCW:OkC 154 cWN:=okC_reach (b:=1) evW_ok
def xB:NO:=beginN c0N.n0 4
def yB:NO:=beginN c0N.n1 4
def uB:NO:=beginN cWN.n0 4
def vB:NO:=beginN cWN.n1 4
theorem u64_4:inK .u64 4:=⟨by decide,by decide⟩
theorem oXB:OkN 154 xB.1:=(okN_begin oC0.a u64_4).up (by omega)
theorem oYB:OkN 154 yB.1:=(okN_begin oC0.b u64_4).up (by omega)
theorem oUB:OkN 154 uB.1:=(okN_begin oCW.a u64_4).up (by omega)
theorem oVB:OkN 154 vB.1:=(okN_begin oCW.b u64_4).up (by omega)
def pM:NO:=metN xB.1 (ownN yB.1)
def qM:NO:=metN yB.1 (ownN xB.1)
def sM:NO:=metN uB.1 (ownN vB.1)
def tM:NO:=metN vB.1 (ownN uB.1)
def h77:Hello:=⟨2,⟨77,0,0,0⟩,false,false,false,false,0⟩
def hM:NO:=metN xB.1 h77
theorem w77:wHello h77:=⟨⟨by decide,by decide⟩,⟨⟨by decide,by decide⟩,u64_0,u64_0,u64_0⟩,⟨by decide,by decide⟩⟩
theorem iX:xB.1.id=0:=(idc_reach (b:=1) (l:=[])).1
theorem iY:yB.1.id=1:=(idc_reach (b:=1) (l:=[])).2
theorem iU:uB.1.id=0:=(idc_reach (b:=1) (l:=evW)).1
theorem iV:vB.1.id=1:=(idc_reach (b:=1) (l:=evW)).2
theorem alive19_ok {K:Bool->Prop} (k:K true):q189.F K:=by
 unfold q189.F q189.FV
 refine Reach_ok (b:=1) (l:=[]) (by decide) (by decide) ev0_ok ?_
 refine BeginP_ok (n:=c0N.n0) oC0.a u64_4 (BeginP_ok (n:=c0N.n1) oC0.b u64_4 ?_)
 refine ref19Own_ok (MetP_ok (N:=154) (n:=xB.1) (by decide) (by decide) oXB (.inl iX) (own_w oYB) ?_)
 refine ref19Own_ok (MetP_ok (N:=154) (n:=yB.1) (by decide) (by decide) oYB (.inr iY) (own_w oXB) ?_)
 refine Reach_ok (b:=1) (l:=evW) (by decide) (by decide) evW_ok ?_
 refine BeginP_ok (n:=cWN.n0) oCW.a u64_4 (BeginP_ok (n:=cWN.n1) oCW.b u64_4 ?_)
 refine ref19Own_ok (MetP_ok (N:=154) (n:=uB.1) (by decide) (by decide) oUB (.inl iU) (own_w oVB) ?_)
 refine ref19Own_ok (MetP_ok (N:=154) (n:=vB.1) (by decide) (by decide) oVB (.inr iV) (own_w oUB) ?_)
 refine MetP_ok (N:=154) (n:=xB.1) (h:=h77) (by decide) (by decide) oXB (.inl iX) w77 ?_
 refine cond_f (show((xB.2.length:Int) != 1)=false by kernel_rfl) ?_
 refine cond_f (show((yB.2.length:Int) != 1)=false by kernel_rfl) ?_
 refine cond_f (show(IntKind.i64.wrap ((pM.2.length:Int)+(qM.2.length:Int)) != 0)=false by kernel_rfl) ?_
 refine cond_f (show((sM.2.length:Int) != 0)=false by kernel_rfl) ?_
 refine cond_f (show((tM.2.length:Int) != 1)=false by kernel_rfl) ?_
 refine cond_f (show((hM.2.length:Int) != 1)=false by kernel_rfl) ?_
 refine cond_t (show(xB.1.state==1)=true by kernel_rfl) ?_
 refine cond_t (show(xB.1.session==4)=true by kernel_rfl) ?_
 refine oget_ok (v:=h0 xB.2) (show getI xB.2 0=some (h0 xB.2) by kernel_rfl) ?_
 refine cond_t (show((h0 xB.2).kind==1)=true by kernel_rfl) ?_
 refine oget_ok (v:=h0 yB.2) (show getI yB.2 0=some (h0 yB.2) by kernel_rfl) ?_
 refine cond_t (show((h0 yB.2).node==1)=true by kernel_rfl) ?_
 refine cond_t (show(pM.1.state==2)=true by kernel_rfl) ?_
 refine cond_t (show(qM.1.state==2)=true by kernel_rfl) ?_
 refine cond_t (show(sM.1.state==3)=true by kernel_rfl) ?_
 refine cond_t (show(tM.1.state==4)=true by kernel_rfl) ?_
 refine cond_t (show tM.1.peerPri=true by kernel_rfl) ?_
 refine cond_t (show tM.1.store.sup.inc=true by kernel_rfl) ?_
 refine cond_t (show(tM.1.store.sup.vector.bitmap==9)=true by kernel_rfl) ?_
 refine cond_t (show(tM.1.store.mask==2)=true by kernel_rfl) ?_
 refine cond_t (show(tM.1.wanted==2)=true by kernel_rfl) ?_
 refine oget_ok (v:=h0 hM.2) (show getI hM.2 0=some (h0 hM.2) by kernel_rfl) ?_
 have e:(((h0 hM.2).kind==3)&&(((h0 hM.2).node==0)&&(((h0 hM.2).id==0)&&(((h0 hM.2).err==0)&&(((h0 hM.2).data==([]:Str))&&true)))))=true:=by kernel_rfl
 exact use_eq k e.symm
theorem GreetBegins_ok {c:Case} {session:Int} (h0:0≤c.blocks) (hw:∀ e∈c.l,inK .u64 e.num) (hs:inK .u64 session) {K:Bool->Prop} (k:K true):q194.F c session K:=by
 unfold q194.F q194.FV
 refine alive19_ok (cond_f rfl (Great_ok (most:=60) (by decide) k (fun hl he=>cond_f rfl ?_)))
 have hE:∀ e∈c.l,OkE e:=fun e h=>okE_of (hw e h) (he e h)
 have on:OkN 2000 (nodeC (reachC c.blocks c.l) c.side):=((okC_reach hE).up (by omega)).node _
 refine Node19_ok h0 (by omega) hE (fun _ _=>?_) (fun _=>k)
 generalize nodeC (reachC c.blocks c.l) c.side=n at on
 refine cond_f rfl (BeginP_ok on hs (ref19Begin_ok on hs ?_))
 have ob:OkN 2000 (beginN n session).1:=okN_begin on hs
 exact nodeSame_ok (N:=2000) (by decide) ob (cond_t rfl (outsSame_ok (by exact(show(1:Nat)≤1000000 by decide)) k))
theorem GreetMeets_ok {c:Case} {h:Hello} {session:Int} (h0:0≤c.blocks) (hw:∀ e∈c.l,inK .u64 e.num) (hh:wHello h) (hs:inK .u64 session) {K:Bool->Prop} (k:K true):q196.F c h session K:=by
 unfold q196.F q196.FV
 refine alive19_ok (cond_f rfl (Great_ok (most:=60) (by decide) k (fun hl he=>cond_f rfl ?_)))
 have hE:∀ e∈c.l,OkE e:=fun e h=>okE_of (hw e h) (he e h)
 have on:OkN 2000 (nodeC (reachC c.blocks c.l) c.side):=((okC_reach hE).up (by omega)).node _
 have hid:=(idc_reach (b:=c.blocks) (l:=c.l)).two c.side
 refine ref10_Right_ok hh (cond_ok (fun _=>k) (fun _=>?_))
 refine Node19_ok h0 (by omega) hE (fun _ _=>?_) (fun _=>k)
 generalize nodeC (reachC c.blocks c.l) c.side=n at on hid
 refine cond_f rfl (ref19Begin_ok on hs ?_)
 have ob:OkN 2000 (beginN n session).1:=okN_begin on hs
 refine MetP_ok (N:=2000) (by decide) (by decide) ob hid hh (ref19Met_ok (N:=2000) (by decide) (by decide) ob hh ?_)
 exact nodeSame_ok (N:=2004) (by decide) (okN_met ob (by decide) hh) (cond_t rfl (outsSame_ok (okO_len (okO_met _ _) (by decide)) k))
theorem GreetAlike_ok {c:Case} {session:Int} (h0:0≤c.blocks) (hw:∀ e∈c.l,inK .u64 e.num) (hs:inK .u64 session) {K:Bool->Prop} (k:K true):q197.F c session K:=by
 unfold q197.F q197.FV
 refine alive19_ok (cond_f rfl (Great_ok (most:=60) (by decide) k (fun hl he=>cond_f rfl ?_)))
 have hE:∀ e∈c.l,OkE e:=fun e h=>okE_of (hw e h) (he e h)
 have oc:OkC 2000 (reachC c.blocks c.l):=(okC_reach hE).up (by omega)
 have nw:CW (1+c.blocks % 4) (reachC c.blocks c.l):=cw_reach hE
 have hid:=idc_reach (b:=c.blocks) (l:=c.l)
 refine Reach_ok h0 (by omega) hE ?_
 have ox:=oc.a
 have oy:=oc.b
 have nx:=nw.1
 have ny:=nw.2
 have ix:=hid.1
 have iy:=hid.2
 generalize (reachC c.blocks c.l).n0=x at ox nx ix ⊢
 generalize (reachC c.blocks c.l).n1=y at oy ny iy ⊢
 generalize 1+c.blocks % 4=B at nx ny
 refine cond_ok (fun _=>k) (fun hux=>cond_ok (fun _=>k) (fun huy=>cond_ok (fun _=>k) (fun _=>cond_ok (fun _=>k) (fun _=>cond_ok (fun _=>k) (fun hfx=>cond_ok (fun _=>k) (fun hfy=>?_))))))
 have ux:=nx.2 (not_f hux)
 have uy:=ny.2 (not_f huy)
 have hfx:¬ x.store.disk.fuse > 0:=of_decide_eq_false hfx
 have hfy:¬ y.store.disk.fuse > 0:=of_decide_eq_false hfy
 refine ref19Begin_ok ox hs (ref19Begin_ok oy hs ?_)
 have bx:OkN 2000 (beginN x session).1:=okN_begin ox hs
 have by':OkN 2000 (beginN y session).1:=okN_begin oy hs
 have al:=alike_of (x:=(beginN x session).1) (y:=(beginN y session).1) (by decide) bx by' ux uy ⟨ux.dead,by show x.store.disk.fuse≤0;omega⟩ ⟨uy.dead,by show y.store.disk.fuse≤0;omega⟩ ix iy
 have ix':(beginN x session).1.id=0:=ix
 have iy':(beginN y session).1.id=1:=iy
 generalize (beginN x session).1=x' at bx al ix' ⊢
 generalize (beginN y session).1=y' at by' al iy' ⊢
 refine ref19Own_ok (MetP_ok (N:=2000) (by decide) (by decide) bx (.inl ix') (own_w by') ?_)
 refine ref19Own_ok (MetP_ok (N:=2000) (by decide) (by decide) by' (.inr iy') (own_w bx) ?_)
 refine ref19Own_ok (ref19Own_ok (decide_ok ?_))
 cases al with
 | refuse hv h1 h2=>
  rw [hv,h1,h2]
  refine cond_t rfl (cond_t rfl (cond_t rfl (oget_ok (v:=closeO x') rfl (cond_t ?_ (oget_ok (v:=closeO y') rfl (cond_t ?_ ?_))))))
  ·unfold closeO
   rw [ix']
   rfl
  ·unfold closeO
   rw [iy']
   rfl
  ·exact nodeSame_ok (N:=2000) (by decide) bx (cond_t rfl (nodeSame_ok (N:=2000) (by decide) by' k))
 | none hv s1 s2 o1 o2 hc m1 m2=>
  rw [hv]
  refine cond_f rfl (cond_t rfl (cond_t (by rw [s1];rfl) (cond_t (by rw [s2];rfl) (cond_t (by rw [o1,o2];rfl) (cond_t (by rw [hc];exact beq_self_eq_true _) ?_)))))
  rw [m1,m2]
  exact k
 | onto0 kd hv hk s1 s2 hm hsup=>
  rw [hv]
  refine cond_f (beq_eq_false_iff_ne.2 (by show kd≠4;omega)) (cond_f (beq_eq_false_iff_ne.2 (by show kd≠1;omega)) (cond_t rfl (cond_t (by rw [s1];rfl) (cond_t (by rw [s2];rfl) (cond_t (by rw [hm];exact beq_self_eq_true _) ?_)))))
  rw [hsup]
  refine use_eq k ?_
  simp
 | onto1 kd hv hk s1 s2 hm hsup=>
  rw [hv]
  refine cond_f (beq_eq_false_iff_ne.2 (by show kd≠4;omega)) (cond_f (beq_eq_false_iff_ne.2 (by show kd≠1;omega)) (cond_f rfl (cond_t (by rw [s1];rfl) (cond_t (by rw [s2];rfl) (cond_t (by rw [hm];exact beq_self_eq_true _) ?_)))))
  rw [hsup]
  refine use_eq k ?_
  simp
theorem GreetSame_ok {c:Case} {session:Int} (h0:0≤c.blocks) (hw:∀ e∈c.l,inK .u64 e.num) (hs:inK .u64 session) {K:Bool->Prop} (k:K true):q198.F c session K:=by
 unfold q198.F q198.FV
 refine alive19_ok (cond_f rfl (Great_ok (most:=60) (by decide) k (fun hl he=>cond_f rfl ?_)))
 have hE:∀ e∈c.l,OkE e:=fun e h=>okE_of (hw e h) (he e h)
 have on:OkN 2000 (nodeC (reachC c.blocks c.l) c.side):=((okC_reach hE).up (by omega)).node _
 have nw:NW (1+c.blocks % 4) (nodeC (reachC c.blocks c.l) c.side):=(cw_reach hE).node _
 have pi:PI (nodeC (reachC c.blocks c.l) c.side):=(pc_reach hE).node _
 refine Node19_ok h0 (by omega) hE (fun hu _=>?_) (fun _=>k)
 generalize nodeC (reachC c.blocks c.l) c.side=n at on nw pi hu
 generalize 1+c.blocks % 4=B at nw
 obtain ⟨d,hd,hl2,hr⟩:=begin_says on (nw.2 hu) pi hs
 refine cond_f rfl (BeginP_ok on hs ?_)
 rw [hd]
 refine cond_f rfl (oget_ok (v:=⟨1,n.id,0,0,d⟩) rfl (cond_f rfl (oget_ok (v:=⟨1,n.id,0,0,d⟩) rfl (cond_f (by simp) (oget_ok (v:=⟨1,n.id,0,0,d⟩) rfl (ref13_Read_ok (by show d.length≤10000;omega) ?_))))))
 show bif((readP d session).2==0)then _ else _
 rw [hr]
 refine cond_t rfl (cond_t rfl (ref19Own_ok (cond_t (by simp) ?_)))
 refine nodeSame_ok (n:=n) (N:=2000) (by decide) on (cond_t rfl (cond_t rfl (cond_t (beq_self_eq_true session) k)))
end Gm
