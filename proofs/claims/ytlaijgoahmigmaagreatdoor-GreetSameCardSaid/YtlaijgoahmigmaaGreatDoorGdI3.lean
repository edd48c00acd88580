/- Nodes, on disks that hold a store. -/
import Derived.Test.YtlaijgoahmigmaaGreatDoorGdP6
set_option maxRecDepth 100000
namespace Gm
open Go
def NW (B:Int) (n:Node):Prop:=DW B n.store.disk∧(n.up=true->UpS B n.store)
theorem UpS.nw {B:Int} {n:Node} (h:UpS B n.store):NW B n:=⟨h.dw,fun _=>h⟩
theorem dw_down {B:Int} {n:Node} (h:DW B n.store.disk):NW B (downN n):=⟨dw_crash h,fun e=>by cases e⟩
theorem nw_keep {B:Int} {n:Node} {r:Store×Int} (h:SR B r):NW B (keepN n r).1:=by
 unfold keepN
 split
 ·rename_i e;exact(h.2 e).nw
 ·exact dw_down (n:=setSt n r.1) h.1
theorem up_keep {B:Int} {n:Node} {r:Store×Int} (h:SR B r) (e:(keepN n r).2=true):UpS B (keepN n r).1.store:=by
 unfold keepN at e ⊢
 split
 ·rename_i e;exact h.2 e
 ·rename_i c;rw [if_neg c] at e;cases e
section
variable {B:Int} {N:Nat} {n:Node} (o:OkN N n) (h:UpS B n.store)
include o h
omit o in
theorem nw_commit {b:Super} (w:wSup b):NW B (commitN n b).1:=nw_keep (sr_commit h w)
omit o in
theorem up_commit {b:Super} (w:wSup b) (e:(commitN n b).2=true):UpS B (commitN n b).1.store:=up_keep (sr_commit h w) e
theorem nw_promote {id:Int}:NW B (promoteN n id).1:=by
 have hc:NW B (commitN n (priS n.store.sup true)).1:=nw_commit h o.sup
 unfold promoteN
 repeat' split
 all_goals first
  | exact h.nw
  | exact hc
theorem nw_demote {id:Int}:NW B (demoteN n id).1:=by
 have hc:NW B (commitN n (priS n.store.sup false)).1:=nw_commit h o.sup
 unfold demoteN
 repeat' split
 all_goals first
  | exact h.nw
  | exact hc
theorem nw_discard {id:Int}:NW B (discardN n id).1:=by
 have hc:NW B (commitN n { n.store.sup with dis:=true }).1:=nw_commit h o.sup
 unfold discardN
 repeat' split
 all_goals first
  | exact h.nw
  | exact hc
theorem mint_nw:NW B (mintN n).1∧((mintN n).2≠6->UpS B (mintN n).1.store):=by
 unfold mintN
 split
 ·exact⟨h.nw,fun _=>h⟩
 rename_i g r hd
 have hg:inK .u64 g:=o.dg g (by rw [hd];simp)
 split
 ·exact⟨h.nw,fun _=>h⟩
 have w:wSup { n.store.sup with vector:=mintVec n.store.sup.vector g }:=⟨o.st.b,mint_vec o.st.v hg⟩
 have hc:=nw_commit (n:={ n with draws:=r,mints:=n.mints++[⟨g,n.store.sup.vector.current,n.id⟩] }) h w
 have hu:=up_commit (n:={ n with draws:=r,mints:=n.mints++[⟨g,n.store.sup.vector.current,n.id⟩] }) h w
 dsimp only
 split
 ·rename_i e
  exact⟨(hu e).nw,fun _=>hu e⟩
 ·exact⟨hc,fun e=>(e rfl).elim⟩
theorem lay_nw {b:Int} {data:Str}:NW B (layN n b data).1∧((layN n b data).2=true->UpS B (layN n b data).1.store):=by
 have h1:=sr_mark (i:=b) h o.st.m
 unfold layN
 dsimp only
 split
 ·rename_i e
  have hu:=up_keep h1 e
  exact⟨nw_keep (sr_put hu),fun e=>up_keep (sr_put hu) e⟩
 ·exact⟨nw_keep h1,fun e=>by cases e⟩
theorem nw_wrote {id b:Int} {data:Str}:NW B (wroteN n id b data).1:=by
 have hl:=(lay_nw o h (b:=b) (data:=data)).1
 unfold wroteN
 repeat' split
 all_goals exact hl
theorem wipe_nw {b:Int}:NW B (wipeN n b).1∧((wipeN n b).2=true->UpS B (wipeN n b).1.store):=
 ⟨nw_keep (sr_wipe h o.st.m),fun e=>up_keep (sr_wipe h o.st.m) e⟩
theorem nw_acked {b:Int}:NW B (ackedN n b).1:=by
 have hw:=(wipe_nw (n:={ n with req:=zR }) (b:=b) ⟨o.st,o.se,o.pe,by show(0:Nat)≤8;omega,o.dl,o.dg,o.ml,o.wa⟩ h).1
 unfold ackedN
 dsimp only
 repeat' split
 all_goals first
  | exact h.nw
  | exact hw
theorem nw_apply {b:Int} {data:Str}:NW B (applyN n b data).1:=by
 have hl:=(lay_nw o h (b:=b) (data:=data)).1
 unfold applyN
 split <;> exact hl
theorem nw_lose:NW B (loseN n).1:=by
 unfold loseN
 split
 ·exact h.nw
 have hm:=(mint_nw (n:=bareN n n.up n.store n.primary) (okN_bare o o.st) h).1
 dsimp only
 split
 ·exact UpS.nw (n:=bareN n n.up n.store n.primary) h
 split
 ·exact hm
 ·exact hm
theorem nw_seek:NW B (seekN n).1:=by
 have hc:NW B (commitN n ⟨n.store.sup.blocks,retire n.peer.vector,false,false,false⟩).1:=nw_commit h ⟨o.st.b,retire_vec o.pe.2.1⟩
 unfold seekN
 dsimp only
 repeat' split
 all_goals first
  | exact h.nw
  | exact hc
theorem nw_ended:NW B (endedN n).1:=by
 have hc:NW B (commitN n { n.store.sup with vector:=retire n.store.sup.vector,pri:=n.primary }).1:=nw_commit h ⟨o.st.b,retire_vec o.st.v⟩
 unfold endedN
 dsimp only
 split <;> exact hc
theorem nw_copied {b:Int}:NW B (copiedN n b).1:=by
 unfold copiedN
 split
 ·exact h.nw
 ·exact(wipe_nw o h).1
theorem nw_roles {k:Int}:NW B (rolesN n k).1:=by
 have hc:NW B (commitN n (priS n.store.sup true)).1:=nw_commit h o.sup
 unfold rolesN
 dsimp only
 repeat' split
 all_goals first
  | exact h.nw
  | exact hc
end
section
variable {B:Int} {N:Nat} {n:Node} (h64:64≤N) (o:OkN N n) (h:UpS B n.store)
include h64 o h
theorem nw_write {id b:Int} {data:Str}:NW B (writeN n id b data).1:=by
 have hm:NW B (if n.state=0∧n.minted=false then mintN n else(n,0)).1∧((if n.state=0∧n.minted=false then mintN n else(n,0)).2≠6->UpS B (if n.state=0∧n.minted=false then mintN n else(n,0)).1.store) ∧
   OkN (N+2) (if n.state=0∧n.minted=false then mintN n else(n,0)).1:=by
  split
  ·exact⟨(mint_nw o h).1,(mint_nw o h).2,okN_mint o h64⟩
  ·exact⟨h.nw,fun _=>h,o.up (by omega)⟩
 rw [write_of]
 generalize (if n.state=0∧n.minted=false then mintN n else(n,0))=q at hm ⊢
 split
 ·exact h.nw
 split
 ·exact h.nw
 split
 ·exact h.nw
 split
 ·exact h.nw
 split
 ·exact h.nw
 split
 ·exact hm.1
 rename_i e
 split
 ·exact hm.1
 ·exact nw_wrote hm.2.2 (hm.2.1 e)
theorem nw_got {b:Int} {data:Str}:NW B (gotN n b data).1:=by
 unfold gotN
 split
 ·exact h.nw
 have oa:=okN_keep o (okS_put (i:=b) (data:=data) o.st h64)
 have ha:=sr_put (i:=b) (data:=data) h
 dsimp only
 split
 ·exact nw_keep ha
 rename_i e
 have ua:=up_keep ha (by simpa using e)
 have ob:=okN_wipe (b:=b) oa (by omega)
 have hb:=wipe_nw (b:=b) oa ua
 split
 ·exact hb.1
 rename_i e2
 exact nw_seek (n:={ (wipeN (keepN n (stPut n.store b data)).1 b).1 with wanted:=0 }) (okN_wanted0 ob) (hb.2 (by simpa using e2))
theorem nw_met {p:Hello} (hh:wHello p):NW B (metN n p).1:=by
 unfold metN
 dsimp only
 split
 ·exact h.nw
 split
 ·have hc:NW B (commitN n { n.store.sup with vector:=retire n.store.sup.vector,pri:=n.primary }).1:=nw_commit h ⟨o.st.b,retire_vec o.st.v⟩
  split <;> exact hc
 have oj:=okN_keep o (okS_join o.st h64 (verdict_u32 o hh))
 have hj:=sr_join (m:=(verdictN n p).2) h o.st.m (verdict_u32 o hh)
 split
 ·exact nw_keep hj
 rename_i e
 have uj:=up_keep (n:=n) hj (by simpa using e)
 split
 ·exact uj.nw
 have w:wSup { n.store.sup with inc:=true,pri:=false,vector:=fromVec n.store.sup.vector p.vector.current }:=⟨o.st.b,from_vec o.st.v hh.2.1.1⟩
 have oc:=okN_commit (b:={ n.store.sup with inc:=true,pri:=false,vector:=fromVec n.store.sup.vector p.vector.current }) oj (by omega) w
 split
 ·exact nw_commit uj w
 ·rename_i e2
  exact nw_seek (okN_enter oc hh) (up_commit uj w (by simpa using e2))
theorem nw_take {p:Packet} (hp:wHello p.hello):NW B (takeN n p).1:=by
 unfold takeN
 split
 ·exact nw_met h64 o h hp
 split
 ·exact nw_apply o h
 split
 ·exact nw_acked o h
 split
 ·exact(wipe_nw o h).1
 split
 ·exact h.nw
 split
 ·exact nw_got h64 o h
 split
 ·exact nw_copied o h
 split
 ·exact nw_ended o h
 split
 ·exact h.nw
 ·exact nw_roles o h
end
theorem nw_receive {B:Int} {N:Nat} {n:Node} {b:Str} (h64:64≤N) (o:OkN N n) (h:NW B n):NW B (receiveN n b).1:=by
 unfold receiveN
 split
 ·exact h
 rename_i c
 split
 ·exact h
 split
 ·exact h
 ·exact nw_take h64 o (h.2 (by cases hu:n.up with | true=>rfl | false=>exact(c (.inl hu)).elim)) (read_w b n.session)
theorem attach_dw {B:Int} {d:Disk} (h:DW B d) (hd:d.dead=false) (hc:d.cache=[]):∃ (s:Super) (m:Nat),stAttach d=(⟨d,s,(m:Int)⟩,0)∧s.blocks=B∧m < 2 ^ 32∧d.sure[1]? = some (sealV (be m 4))∧d.sure[0]? = some (sealV (sBytes s))∧maskR m B=true:=by
 have hl:=h.len
 have h1:=h.one
 have nc:∀ (x:Nat),∀ w∈d.cache,w.sector≠(x:Int):=fun x w m=>by rw [hc] at m;cases m
 have rd:∀ (x:Nat) (hx:x < d.sure.length),readV d x=(d.sure[x],0):=fun x hx=>read_sec hd hx (nc x)
 have gv:∀ (x:Nat) (hx:x < d.sure.length),SGood B x d.sure[x]:=fun x hx=>(h.val x).1 _ (List.getElem?_eq_getElem hx)
 obtain ⟨s,e0,hsb,hsr,hsw⟩:=(gv 0 (by omega)).1 rfl
 obtain ⟨m,e1,hm⟩:=(gv 1 (by omega)).2.1 rfl
 have hm32:m < 2 ^ 32:=by
  have hm:=hm
  unfold maskR at hm
  have hm:=(of_decide_eq_true hm).2.2
  have:(2:Int) ^ B.toNat≤2 ^ 32:=by
   have:(2:Nat) ^ B.toNat≤2 ^ 32:=Nat.pow_le_pow_right (by decide) (by omega)
   exact_mod_cast this
  have h3:(2:Int) ^ 32=4294967296:=by decide
  have h4:(2:Nat) ^ 32=4294967296:=by decide
  omega
 have lS:loadS d=(s,0):=by
  unfold loadS
  have r0:readV d 0=(sealV (sBytes s),0):=by rw [← e0];exact rd 0 (by omega)
  rw [r0]
  dsimp only
  rw [decS6_seal hsw hsr,if_neg (by simp),if_neg (by simp),if_pos ?_]
  unfold fitsS
  rw [beq_iff_eq]
  show s.blocks=(d.sure.length:Int) - 2
  omega
 have lV:loadV d=((m:Int),0):=by
  unfold loadV
  have r1:readV d 1=(sealV (be m 4),0):=by rw [← e1];exact rd 1 (by omega)
  have hu:unbe (be m 4)=m:=by
   rw [unbe_be]
   exact Nat.mod_eq_of_lt (by simpa using hm32)
  rw [r1]
  dsimp only
  rw [openV_seal,if_neg (by simp),if_neg (by simp),hu,if_pos ⟨be_length _ _,by rw [show (d.sure.length:Int) - 2=B by omega];exact hm⟩]
 have aR:∀ k:Nat,(k:Int) < B->(aReadV d k).2=0:=by
  intro k hk
  unfold aReadV
  have r:readV d ((k:Int)+2)=(d.sure[k+2]'(by omega),0):=rd (k+2) (by omega)
  rw [if_pos (show bd d k from ⟨by omega,by omega⟩),r,if_neg (by simp),if_pos ((gv (k+2) (by omega)).2.2 (by omega))]
 have aN:∀ k:Nat,(k:Int)≤B->(allN d k).2=0:=by
  intro k
  induction k with
  | zero=>intro _;rfl
  | succ k ih=>
   intro hk
   unfold allN
   rw [if_neg (fun e=>e (ih (by omega))),if_neg (fun e=>e (aR k (by omega)))]
 have aV:(allV d).2=0:=aN _ (by omega)
 refine⟨s,m,?_,hsb,hm32,by rw [List.getElem?_eq_getElem (by omega),e1],by rw [List.getElem?_eq_getElem (by omega),e0],hm⟩
 unfold stAttach
 rw [lS,lV,if_neg (by simp),if_neg (by simp),if_neg (fun e=>e aV)]
theorem up_attach {B:Int} {d:Disk} (h:DW B d) (hd:d.dead=false) (hc:d.cache=[]):(stAttach d).2=0∧UpS B (stAttach d).1:=by
 obtain ⟨s,m,e,hs,hm,h1,h0,hr⟩:=attach_dw h hd hc
 rw [e]
 have nc:∀ w∈d.cache,False:=fun w m=>by rw [hc] at m;cases m
 refine⟨rfl,h,hd,hs,fun w m=>(nc w m).elim,⟨fun y hy=>?_,fun w m=>(nc w m).elim⟩,⟨fun y hy=>?_,fun w m=>(nc w m).elim⟩,?_⟩
 ·have hy:d.sure[1]? = some y:=hy
  rw [h1] at hy
  cases hy
  exact⟨m,rfl,hm,fun k hk=>hk⟩
 ·have hy:d.sure[0]? = some y:=hy
  rw [h0] at hy
  cases hy
  rfl
 ·exact hr
theorem nw_attach {B:Int} {n:Node} {keeps:List Bool} (h:NW B n):NW B (attachN n keeps).1:=by
 unfold attachN
 split
 ·exact h
 have hr:=dw_revive h.1 keeps
 have ha:=up_attach hr rfl rfl
 rw [if_neg (fun e=>e ha.1)]
 exact UpS.nw (n:=bareN n true (stAttach (reviveV n.store.disk keeps)).1 false) ha.2
end Gm

set_option maxRecDepth 100000
namespace Gm
open Go
def CW (B:Int) (c:Cluster):Prop:=NW B c.n0∧NW B c.n1
theorem CW.node {B:Int} {c:Cluster} (h:CW B c) (i:Bool):NW B (nodeC c i):=by cases i;exact h.1;exact h.2
theorem cw_set {B:Int} {c:Cluster} {n:Node} (h:CW B c) (hn:NW B n) (i:Bool):CW B (setN c i n):=by
 cases i
 ·exact⟨hn,h.2⟩
 ·exact⟨h.1,hn⟩
theorem cw_want {B:Int} {c:Cluster} (h:CW B c) (i w:Bool):CW B (setW c i w):=by cases i <;> exact h
theorem cw_lose {B:Int} {N:Nat} {c:CO} (o:OkC N c.1) (h:CW B c.1) (i:Bool):CW B (loseC c i).1:=by
 unfold loseC
 split
 ·exact h
 rename_i c1
 dsimp only
 have hu:(nodeC c.1 i).up=true:=by simpa using c1
 have h1:=cw_set h (nw_lose (o.node i) ((h.node i).2 hu)) i
 split
 ·exact cw_want h1 _ _
 ·exact h1
theorem cw_end {B:Int} {N:Nat} {c:Cluster} {out:List Outp} (h64:64≤N) (o:OkC N c) (h:CW B c):CW B (endC c out).1:=by
 have o1:OkC N { c with link:=closeL c.link }:=⟨o.a,o.b,⟨o.l.s,Nat.zero_le _,Nat.zero_le _,fun x h=>(by cases h),fun x h=>(by cases h)⟩⟩
 have h1:CW B { c with link:=closeL c.link }:=h
 exact cw_lose (c:=loseC ({ c with link:=closeL c.link },out) false) (okC_lose (c:=({ c with link:=closeL c.link },out)) o1 h64 false) (cw_lose (c:=({ c with link:=closeL c.link },out)) o1 h1 false) true
theorem cw_put {B:Int} {c:Cluster} {l:List Outp} (h:CW B c) (i:Bool):CW B (putC c i l):=by
 unfold putC
 split <;> exact h
theorem cw_after {B:Int} {N:Nat} {c:Cluster} {r:NO} (h64:64≤N) (o:OkC N c) (h:CW B c) (i:Bool) (hn:OkN (N+4) r.1) (hl:OkO 3 r.2) (hw:NW B r.1):CW B (afterC c i r).1:=by
 have o1:=okC_put (okC_set o (by omega:N≤N+4) hn i) i hl
 have h1:CW B (putC (setN c i r.1) i r.2):=cw_put (cw_set h hw i) i
 unfold afterC
 dsimp only
 have o2:OkC (N+7) (if r.1.up=false then setW (putC (setN c i r.1) i r.2) i false else putC (setN c i r.1) i r.2)∧CW B (if r.1.up=false then setW (putC (setN c i r.1) i r.2) i false else putC (setN c i r.1) i r.2):=by
  split
  ·exact⟨okC_want o1 _ _,cw_want h1 _ _⟩
  ·exact⟨o1,h1⟩
 generalize (if r.1.up=false then setW (putC (setN c i r.1) i r.2) i false else putC (setN c i r.1) i r.2)=c2 at o2 ⊢
 split
 ·exact o2.2
 ·refine cw_end (N:=N+7) (by omega) ?_ ?_
  ·split
   ·exact⟨o2.1.a,o2.1.b,o2.1.l⟩
   ·exact o2.1
  ·split
   ·exact o2.2
   ·exact o2.2
theorem cw_connect {B:Int} {N:Nat} {c:Cluster} (h64:64≤N) (o:OkC N c) (h:CW B c) (i:Bool):CW B (connectC c i).1:=by
 unfold connectC
 split
 ·exact h
 dsimp only
 split
 ·exact cw_want h _ _
 have o2:=okC_open (okC_want o i true)
 have h2:CW B { setW c i true with link:=openL (setW c i true).link }:=cw_want h i true
 have oa:=okC_after (r:=beginN (setW c i true).n0 (openL (setW c i true).link).session) o2 h64 false ((okN_begin o2.a o2.l.s).up (by omega)) (okO_begin _ _)
 have ha:=cw_after (r:=beginN (setW c i true).n0 (openL (setW c i true).link).session) h64 o2 h2 false ((okN_begin o2.a o2.l.s).up (by omega)) (okO_begin _ _) h2.1
 exact cw_after (N:=N+15) (by omega) oa ha true ((okN_begin oa.b oa.l.s).up (by omega)) (okO_begin _ _) ha.2
theorem cw_at {B:Int} {N:Nat} {c:Cluster} {e:Event} (h64:64≤N) (o:OkC N c) (oe:OkE e) (h:CW B c) (i:Bool):CW B (doAt c e i).1:=by
 have on:=o.node i
 have hn:=h.node i
 have up:∀ {r:NO},OkN (N+4) r.1->OkO 3 r.2->NW B r.1->CW B (afterC c i r).1:=fun h1 h2 h3=>cw_after h64 o h i h1 h2 h3
 -- what a node that is down answers leaves it as it was
 have dn:∀ {f:Node->NO},(∀ n:Node,n.up=false->(f n).1=n)->((nodeC c i).up=true->NW B (f (nodeC c i)).1)->NW B (f (nodeC c i)).1:=by
  intro f h1 h2
  cases hu:(nodeC c i).up with
  | true=>exact h2 hu
  | false=>rw [h1 _ hu];exact hn
 unfold doAt
 refine ite_of (P:=fun r:CO=>CW B r.1) (fun _=>?_) (fun _=>?_)
 ·exact up (okN_promote on h64) (okO_promote _ _) (dn (f:=fun n=>promoteN n e.id) (fun n hu=>by unfold promoteN;rw [if_pos hu];rfl) (fun hu=>nw_promote on (hn.2 hu)))
 refine ite_of (P:=fun r:CO=>CW B r.1) (fun _=>?_) (fun _=>?_)
 ·exact up (okN_demote on h64) (okO_demote _ _) (dn (f:=fun n=>demoteN n e.id) (fun n hu=>by unfold demoteN;rw [if_pos hu];rfl) (fun hu=>nw_demote on (hn.2 hu)))
 refine ite_of (P:=fun r:CO=>CW B r.1) (fun _=>?_) (fun _=>?_)
 ·exact up (okN_discard on h64) (okO_discard _ _) (dn (f:=fun n=>discardN n e.id) (fun n hu=>by unfold discardN;rw [if_pos hu];rfl) (fun hu=>nw_discard on (hn.2 hu)))
 refine ite_of (P:=fun r:CO=>CW B r.1) (fun _=>?_) (fun _=>?_)
 ·refine up (okN_read on) (okO_read _ _ _) ?_
  unfold readN
  repeat' split
  all_goals exact hn
 refine ite_of (P:=fun r:CO=>CW B r.1) (fun _=>?_) (fun _=>?_)
 ·exact up (okN_write on h64) (okO_write _ _ _ _) (dn (f:=fun n=>writeN n e.id e.block e.data) (fun n hu=>by unfold writeN;rw [if_pos hu];rfl) (fun hu=>nw_write h64 on (hn.2 hu)))
 refine ite_of (P:=fun r:CO=>CW B r.1) (fun _=>?_) (fun _=>?_)
 ·exact cw_connect h64 o h i
 refine ite_of (P:=fun r:CO=>CW B r.1) (fun _=>?_) (fun _=>?_)
 ·have o1:OkC N (if e.kind=7 then setW c i false else c)∧CW B (if e.kind=7 then setW c i false else c):=by
   split
   ·exact⟨okC_want o _ _,cw_want h _ _⟩
   ·exact⟨o,h⟩
  generalize (if e.kind=7 then setW c i false else c)=c1 at o1 ⊢
  split
  ·exact cw_end h64 o1.1 o1.2
  ·exact o1.2
 refine ite_of (P:=fun r:CO=>CW B r.1) (fun _=>?_) (fun _=>?_)
 ·split
  ·exact h
  ·rename_i b r hq
   have hto:=o.l.to i
   rw [hq] at hto
   have o1:OkC N { c with link:=setTo c.link i r }:=⟨o.a,o.b,okL_to o.l i (by have:=hto.1;simp at this;omega) (fun x hx=>hto.2 x (List.mem_cons_of_mem _ hx))⟩
   exact cw_after h64 o1 h i (okN_receive on h64) (okO_receive _ _) (nw_receive h64 on hn)
 refine ite_of (P:=fun r:CO=>CW B r.1) (fun _=>?_) (fun _=>?_)
 ·split
  ·exact up ((okN_down on).up (by omega)) (okO_nil 3) (dw_down hn.1)
  ·exact h
 refine ite_of (P:=fun r:CO=>CW B r.1) (fun _=>?_) (fun _=>?_)
 ·exact cw_set h (nw_attach hn) i
 refine ite_of (P:=fun r:CO=>CW B r.1) (fun _=>?_) (fun _=>?_)
 ·have h0:0≤e.num:=oe.n.1
  split
  ·rename_i hu
   refine up ((okN_arm on (by omega) (by omega)).up (by omega)) (okO_nil 3) ?_
   have u:=hn.2 hu
   exact UpS.nw (n:=setSt (nodeC c i) ⟨armV (nodeC c i).store.disk (min e.num 1000),(nodeC c i).store.sup,(nodeC c i).store.mask⟩) ⟨dw_arm u.dw,u.dead,u.bl,u.one,u.mv,u.sb,u.mb⟩
  ·exact up (on.up (by omega)) (okO_nil 3) hn
 refine ite_of (P:=fun r:CO=>CW B r.1) (fun _=>?_) (fun _=>?_)
 ·refine cw_set h ?_ i
  split
  ·exact hn
  ·exact hn
 refine ite_of (P:=fun r:CO=>CW B r.1) (fun _=>?_) (fun _=>?_)
 ·split
  ·exact h
  ·exact up (okN_receive on h64) (okO_receive _ _) (nw_receive h64 on hn)
 ·exact h
theorem cw_do {B:Int} {N:Nat} {c:Cluster} {e:Event} (h64:64≤N) (o:OkC N c) (oe:OkE e) (h:CW B c):CW B (doC c e).1:=by
 unfold doC
 split
 ·exact cw_at h64 o oe h false
 split
 ·exact cw_at h64 o oe h true
 ·exact h
theorem cw_play {B:Int}:∀ {l:List Event} {N:Nat} {c:Cluster},64≤N->OkC N c->(∀ e∈l,OkE e)->CW B c->CW B (playC c l)
 | [],_,_,_,_,_,h=>h
 | e :: l,_,_,h64,o,he,h=>cw_play (l:=l) (by omega) (okC_do o h64 (he e (by simp))) (fun x hx=>he x (by simp [hx])) (cw_do h64 o (he e (by simp)) h)
end Gm

set_option maxRecDepth 100000
namespace Gm
open Go
structure NI (B:Int) (n:Node):Prop where
 dn:n.up=false->n.state=0
 w0:¬ (n.state=4∧n.store.sup.inc=true)->n.wanted=0
 w4:n.state=4->n.store.sup.inc=true->1≤n.wanted∧n.wanted≤B
theorem ni_bare {B:Int} {n:Node} {up pri:Bool} {s:Store}:NI B (bareN n up s pri):=⟨fun _=>rfl,fun _=>rfl,fun h=>by cases h⟩
theorem ni_down {B:Int} {n:Node}:NI B (downN n):=ni_bare
theorem ni_keep {B:Int} {n:Node} {r:Store×Int} (h:NI B n) (hi:r.2=0->r.1.sup.inc=n.store.sup.inc):NI B (keepN n r).1:=by
 unfold keepN
 split
 ·rename_i e
  have hi:=hi e
  exact⟨h.dn,fun c=>h.w0 (fun c2=>c ⟨c2.1,hi.trans c2.2⟩),fun c1 c2=>h.w4 c1 (hi.symm.trans c2)⟩
 ·exact ni_down
theorem commit_inc {s:Store} {b:Super}:(stCommit s b).2=0->(stCommit s b).1.sup=b:=by
 unfold stCommit
 split
 ·rename_i e;exact fun _=>e.symm
 ·intro h
  exact if_pos h
theorem save_sup (s:Store) (m:Int):(stSave s m).1.sup=s.sup:=by unfold stSave;split <;> rfl
theorem note_sup (s:Store) (m:Int):(stNote s m).1.sup=s.sup:=by unfold stNote;split <;> rfl
theorem wipe_sup (s:Store) (i:Int):(stWipe s i).1.sup=s.sup:=by
 unfold stWipe
 split
 ·exact note_sup _ _
 ·rfl
theorem ni_commit {B:Int} {n:Node} {b:Super} (h:NI B n) (hi:b.inc=n.store.sup.inc):NI B (commitN n b).1:=
 ni_keep h (fun e=>by rw [commit_inc e];exact hi)
theorem NI.same {B:Int} {n m:Node} (h:NI B n) (h1:m.up=n.up) (h2:m.state=n.state) (h3:m.store.sup.inc=n.store.sup.inc) (h4:m.wanted=n.wanted):NI B m:=
 ⟨fun e=>h2.trans (h.dn (h1.symm.trans e)),fun c=>h4.trans (h.w0 (fun c2=>c ⟨h2.trans c2.1,h3.trans c2.2⟩)),fun c1 c2=>by rw [h4];exact h.w4 (h2.symm.trans c1) (h3.symm.trans c2)⟩
section
variable {B:Int} {n:Node} (h:NI B n)
include h
theorem ni_promote {id:Int}:NI B (promoteN n id).1:=by
 have hc:NI B (commitN n (priS n.store.sup true)).1:=ni_commit h rfl
 unfold promoteN
 repeat' split
 all_goals first
  | exact h
  | exact hc
  | exact h.same rfl rfl rfl rfl
  | exact hc.same rfl rfl rfl rfl
theorem ni_demote {id:Int}:NI B (demoteN n id).1:=by
 have hc:NI B (commitN n (priS n.store.sup false)).1:=ni_commit h rfl
 unfold demoteN
 repeat' split
 all_goals first
  | exact h
  | exact hc
  | exact hc.same rfl rfl rfl rfl
theorem ni_discard {id:Int}:NI B (discardN n id).1:=by
 have hc:NI B (commitN n { n.store.sup with dis:=true }).1:=ni_commit h rfl
 unfold discardN
 repeat' split
 all_goals first
  | exact h
  | exact hc
theorem ni_mint:NI B (mintN n).1:=by
 unfold mintN
 split
 ·exact h
 rename_i g r hd
 split
 ·exact h.same rfl rfl rfl rfl
 have hm:NI B { n with draws:=r,mints:=n.mints++[⟨g,n.store.sup.vector.current,n.id⟩] }:=h.same rfl rfl rfl rfl
 have hc:=ni_commit (b:={ n.store.sup with vector:=mintVec n.store.sup.vector g }) hm rfl
 dsimp only
 split
 ·exact hc.same rfl rfl rfl rfl
 ·exact hc
theorem ni_lay {b:Int} {data:Str}:NI B (layN n b data).1:=by
 have h1:NI B (keepN n (stMark n.store b)).1:=ni_keep h (fun _=>by rw [mark_sup])
 unfold layN
 dsimp only
 split
 ·exact ni_keep h1 (fun _=>rfl)
 ·exact h1
theorem ni_wipe {b:Int}:NI B (wipeN n b).1:=ni_keep h (fun _=>by rw [wipe_sup])
theorem ni_wrote {id b:Int} {data:Str}:NI B (wroteN n id b data).1:=by
 have hl:=ni_lay h (b:=b) (data:=data)
 unfold wroteN
 repeat' split
 ·exact hl
 ·exact hl
 ·exact hl.same rfl rfl rfl rfl
theorem ni_write {id b:Int} {data:Str}:NI B (writeN n id b data).1:=by
 have hm:NI B (if n.state=0∧n.minted=false then mintN n else(n,0)).1:=by
  split
  ·exact ni_mint h
  ·exact h
 rw [write_of]
 generalize (if n.state=0∧n.minted=false then mintN n else(n,0))=q at hm ⊢
 repeat' split
 all_goals first
  | exact h
  | exact hm
  | exact ni_wrote hm
theorem ni_acked {b:Int}:NI B (ackedN n b).1:=by
 have hw:=ni_wipe (n:={ n with req:=zR }) (h.same rfl rfl rfl rfl) (b:=b)
 unfold ackedN
 dsimp only
 repeat' split
 all_goals first
  | exact h
  | exact hw
theorem ni_apply {b:Int} {data:Str}:NI B (applyN n b data).1:=by
 have hl:=ni_lay h (b:=b) (data:=data)
 unfold applyN
 split <;> exact hl
theorem ni_copied {b:Int}:NI B (copiedN n b).1:=by
 unfold copiedN
 split
 ·exact h
 ·exact ni_wipe h
omit h in
theorem ni_lose (h:NI B n):NI B (loseN n).1∧(loseN n).1.state=0:=by
 have keep0:∀ {m:Node} {r:Store×Int},m.state=0->(keepN m r).1.state=0:=by
  intro m r hm
  unfold keepN
  split
  ·exact hm
  ·rfl
 have mint0:∀ {m:Node},m.state=0->(mintN m).1.state=0:=by
  intro m hm
  unfold mintN
  split
  ·exact hm
  split
  ·exact hm
  dsimp only
  split
  ·exact keep0 hm
  ·exact keep0 hm
 unfold loseN
 split
 ·rename_i e;exact⟨h,e⟩
 have hb:NI B (bareN n n.up n.store n.primary):=ni_bare
 have hm:=ni_mint hb
 have h0:=mint0 (m:=bareN n n.up n.store n.primary) rfl
 dsimp only
 split
 ·exact⟨hb,rfl⟩
 split
 ·exact⟨hm,h0⟩
 ·exact⟨hm,h0⟩
end
end Gm

set_option maxRecDepth 100000
namespace Gm
open Go
theorem next_lt {m B:Int} (hr:maskR m.toNat B=true) (h:(nextM m).2=true):(nextM m).1 < B:=by
 unfold nextM at h ⊢
 split
 ·rename_i i r hb
  have:i∈bitsM m:=by rw [hb];simp
  unfold bitsM at this
  have hbit:=(List.mem_filter.1 this).2
  unfold maskR at hr
  have hr:=of_decide_eq_true hr
  have h1:=Nat.ge_two_pow_of_testBit hbit
  show(i:Int) < B
  by_cases hi:(i:Int) < B
  ·exact hi
  ·have h2:2 ^ B.toNat≤2 ^ i:=Nat.pow_le_pow_right (by decide) (by omega)
   have h3:((2 ^ B.toNat:Nat):Int)=(2:Int) ^ B.toNat:=by simp
   have:=hr.2.2
   rw [← h3] at this
   omega
 ·rename_i hb
  rw [hb] at h
  cases h
theorem keep_true {n:Node} {r:Store×Int} (e:(keepN n r).2=true):(keepN n r).1=setSt n r.1∧r.2=0:=by
 unfold keepN at e ⊢
 split
 ·rename_i c;exact⟨rfl,c⟩
 ·rename_i c;rw [if_neg c] at e;cases e
theorem ni_seek {B:Int} {n:Node} (u:UpS B n.store) (hd:n.up=false->n.state=0) (s4:n.state=4) (cw:n.wanted=0):NI B (seekN n).1:=by
 have hn:=next_bound n.store.mask
 unfold seekN
 split
 ·rename_i c
  have ci:n.store.sup.inc=false:=c.elim id (fun e=>(e cw).elim)
  exact⟨hd,fun _=>cw,fun _ x=>by rw [ci] at x;cases x⟩
 rename_i c
 have ci:n.store.sup.inc=true:=by
  cases e:n.store.sup.inc with
  | true=>rfl
  | false=>exact(c (.inl e)).elim
 split
 ·rename_i e
  have hl:=next_lt u.mb e
  exact⟨hd,fun x=>(x ⟨s4,ci⟩).elim,fun _ _=>by show 1≤(nextM n.store.mask).1+1∧(nextM n.store.mask).1+1≤B;omega⟩
 ·dsimp only
  have hc:NI B (commitN n ⟨n.store.sup.blocks,retire n.peer.vector,false,false,false⟩).1:=by
   unfold commitN keepN
   split
   ·rename_i e
    have e1:=commit_inc e
    refine⟨hd,fun _=>cw,fun _ x=>?_⟩
    have x:(stCommit n.store ⟨n.store.sup.blocks,retire n.peer.vector,false,false,false⟩).1.sup.inc=true:=x
    rw [e1] at x
    cases x
   ·exact ni_down
  split <;> exact hc
theorem ni_got {B:Int} {N:Nat} {n:Node} {b:Int} {data:Str} (h64:64≤N) (o:OkN N n) (u:UpS B n.store) (h:NI B n) (s4:n.state=4):NI B (gotN n b data).1:=by
 unfold gotN
 split
 ·exact h
 have oa:=okN_keep o (okS_put (i:=b) (data:=data) o.st h64)
 have ha:=sr_put (i:=b) (data:=data) u
 have ka:NI B (keepN n (stPut n.store b data)).1:=ni_keep h (fun _=>rfl)
 dsimp only
 split
 ·exact ka
 rename_i e
 have e:(keepN n (stPut n.store b data)).2=true:=by simpa using e
 have ua:=up_keep ha e
 obtain ⟨q,_⟩:=keep_true e
 rw [q] at oa ua ka ⊢
 have kb:=ni_wipe ka (b:=b)
 have hb:=wipe_nw (b:=b) oa ua
 split
 ·exact kb
 rename_i e2
 have e2:(wipeN (setSt n (stPut n.store b data).1) b).2=true:=by simpa using e2
 have ub:=hb.2 e2
 obtain ⟨q2,_⟩:=keep_true (n:=setSt n (stPut n.store b data).1) (r:=stWipe (stPut n.store b data).1 b) e2
 have q2:(wipeN (setSt n (stPut n.store b data).1) b).1=setSt (setSt n (stPut n.store b data).1) (stWipe (stPut n.store b data).1 b).1:=q2
 rw [q2] at ub ⊢
 exact ni_seek (n:={ setSt (setSt n (stPut n.store b data).1) (stWipe (stPut n.store b data).1 b).1 with wanted:=0 }) ub h.dn s4 rfl
end Gm

set_option maxRecDepth 100000
namespace Gm
open Go
section
variable {B:Int} {n:Node} (hu:n.up=true) (h:NI B n)
include hu h
theorem ni_ended (s3:n.state≠4):NI B (endedN n).1:=by
 have hw:=h.w0 (fun c=>s3 c.1)
 have hc:NI B (commitN n { n.store.sup with vector:=retire n.store.sup.vector,pri:=n.primary }).1:=ni_commit h rfl
 unfold endedN
 dsimp only
 split
 ·rename_i e
  obtain ⟨q,_⟩:=keep_true (r:=stCommit n.store { n.store.sup with vector:=retire n.store.sup.vector,pri:=n.primary }) e
  have q:(commitN n { n.store.sup with vector:=retire n.store.sup.vector,pri:=n.primary }).1=_:=q
  rw [q]
  exact⟨fun e=>(nf hu e).elim,fun _=>hw,fun x=>by cases x⟩
 ·exact hc
theorem ni_done (hi:n.store.sup.inc=false):NI B (doneN n):=
 ⟨fun e=>(nf hu e).elim,fun _=>h.w0 (fun c=>by rw [hi] at c;cases c.2),fun x=>by cases x⟩
omit hu in
theorem ni_roles {k:Int}:NI B (rolesN n k).1:=by
 have hc:NI B (commitN n (priS n.store.sup true)).1:=ni_commit h rfl
 unfold rolesN
 dsimp only
 repeat' split
 all_goals first
  | exact h
  | exact h.same rfl rfl rfl rfl
  | exact hc
  | exact hc.same rfl rfl rfl rfl
theorem ni_met {N:Nat} {p:Hello} (u:UpS B n.store) (o:OkN N n) (hh:wHello p) (s1:n.state=1):NI B (metN n p).1:=by
 have hw:=h.w0 (fun c=>by rw [s1] at c;exact absurd c.1 (by decide))
 unfold metN
 dsimp only
 split
 ·exact h
 split
 ·split
  ·rename_i e
   obtain ⟨q,_⟩:=keep_true (r:=stCommit n.store { n.store.sup with vector:=retire n.store.sup.vector,pri:=n.primary }) e
   have q:(commitN n { n.store.sup with vector:=retire n.store.sup.vector,pri:=n.primary }).1=_:=q
   rw [q]
   exact⟨fun e=>(nf hu e).elim,fun _=>hw,fun x _=>absurd x (by show ¬ ((2:Int)=4);decide)⟩
  ·exact ni_commit h rfl
 have kj:NI B (keepN n (stJoin n.store (verdictN n p).2)).1:=ni_keep h (fun _=>by unfold stJoin;rw [save_sup])
 have hj:=sr_join (m:=(verdictN n p).2) u o.st.m (verdict_u32 o hh)
 split
 ·exact kj
 rename_i e
 have e:(keepN n (stJoin n.store (verdictN n p).2)).2=true:=by simpa using e
 have uj:=up_keep (n:=n) hj e
 obtain ⟨q,_⟩:=keep_true e
 rw [q] at uj ⊢
 split
 ·exact⟨fun e=>(nf hu e).elim,fun _=>hw,fun x _=>absurd x (by show ¬ ((3:Int)=4);decide)⟩
 have w:wSup { n.store.sup with inc:=true,pri:=false,vector:=fromVec n.store.sup.vector p.vector.current }:=⟨o.st.b,from_vec o.st.v hh.2.1.1⟩
 split
 ·rename_i e2
  unfold commitN keepN at e2 ⊢
  split
  ·rename_i c;rw [if_pos c] at e2;cases e2
  ·exact ni_down
 ·rename_i e2
  have e2:(commitN (setSt n (stJoin n.store (verdictN n p).2).1) { n.store.sup with inc:=true,pri:=false,vector:=fromVec n.store.sup.vector p.vector.current }).2=true:=by simpa using e2
  have uc:=up_commit (n:=setSt n (stJoin n.store (verdictN n p).2).1) uj w e2
  obtain ⟨q2,_⟩:=keep_true (n:=setSt n (stJoin n.store (verdictN n p).2).1) (r:=stCommit (stJoin n.store (verdictN n p).2).1 { n.store.sup with inc:=true,pri:=false,vector:=fromVec n.store.sup.vector p.vector.current }) e2
  have q2:(commitN (setSt n (stJoin n.store (verdictN n p).2).1) { n.store.sup with inc:=true,pri:=false,vector:=fromVec n.store.sup.vector p.vector.current }).1=_:=q2
  rw [q2] at uc ⊢
  exact ni_seek (n:=enterN (setSt (setSt n (stJoin n.store (verdictN n p).2).1) _) 4 p) uc (fun e=>(nf hu e).elim) rfl hw
end
end Gm

set_option maxRecDepth 100000
namespace Gm
open Go
theorem ni_take {B:Int} {N:Nat} {n:Node} {p:Packet} (h64:64≤N) (o:OkN N n) (u:UpS B n.store) (h:NI B n) (hp:wHello p.hello) (f:fitsN n p=true):NI B (takeN n p).1:=by
 have hu:n.up=true:=by
  cases e:n.up with
  | true=>rfl
  | false=>unfold fitsN at f;rw [if_pos (.inl e)] at f;cases f
 unfold fitsN at f
 split at f
 ·cases f
 unfold takeN
 by_cases k1:p.kind=1
 ·rw [if_pos k1] at f ⊢
  exact ni_met hu h u o hp (eq_t f)
 rw [if_neg k1] at f ⊢
 by_cases k2:p.kind=2
 ·rw [if_pos k2];exact ni_apply h
 rw [if_neg k2] at f ⊢
 by_cases k3:p.kind=3
 ·rw [if_pos k3];exact ni_acked h
 rw [if_neg k3] at f ⊢
 by_cases k4:p.kind=4
 ·rw [if_pos k4];exact ni_wipe h
 rw [if_neg k4] at f ⊢
 by_cases k5:p.kind=5
 ·rw [if_pos k5];exact h
 rw [if_neg k5]
 by_cases k6:p.kind=6
 ·rw [if_neg (by omega),if_pos k6] at f
  rw [if_pos k6]
  exact ni_got h64 o u h (eq_t f)
 rw [if_neg k6]
 by_cases k7:p.kind=7
 ·rw [if_pos k7];exact ni_copied h
 rw [if_neg k7]
 by_cases k8:p.kind=8
 ·rw [if_pos (by omega)] at f
  rw [if_pos k8]
  have f:=eq_t f
  exact ni_ended hu h (by omega)
 rw [if_neg k8]
 by_cases k9:p.kind=9
 ·rw [if_neg (by omega),if_neg k6,if_pos k9] at f
  rw [if_pos k9]
  exact ni_done hu h (by simpa using (Bool.and_eq_true_iff.1 f).2)
 rw [if_neg k9]
 exact ni_roles h
theorem ni_receive {B:Int} {N:Nat} {n:Node} {b:Str} (h64:64≤N) (o:OkN N n) (w:NW B n) (h:NI B n):NI B (receiveN n b).1:=by
 unfold receiveN
 split
 ·exact h
 rename_i c
 split
 ·exact h
 split
 ·exact h
 rename_i c2
 have hu:n.up=true:=by cases hu:n.up with | true=>rfl | false=>exact(c (.inl hu)).elim
 exact ni_take h64 o (w.2 hu) h (read_w b n.session) (by
  cases e:fitsN n (readP b n.session).1 with
  | true=>rfl
  | false=>exact(c2 (.inr e)).elim)
theorem ni_begin {B:Int} {n:Node} {s:Int} (hu:n.up=true) (h:NI B n) (s0:n.state=0):NI B (beginN n s).1:=
 ⟨fun e=>(nf hu e).elim,fun _=>h.w0 (fun c=>by rw [s0] at c;exact absurd c.1 (by decide)),fun x _=>absurd x (by show ¬ ((1:Int)=4);decide)⟩
theorem ni_attach {B:Int} {n:Node} {keeps:List Bool} (h:NI B n):NI B (attachN n keeps).1:=by
 unfold attachN
 split
 ·exact h
 rename_i c
 have hd:n.up=false:=by simpa using c
 have s0:=h.dn hd
 split
 ·exact⟨h.dn,fun _=>h.w0 (fun c=>by rw [s0] at c;exact absurd c.1 (by decide)),fun x _=>by have x:n.state=4:=x;rw [s0] at x;cases x⟩
 ·exact ni_bare
end Gm

set_option maxRecDepth 100000
namespace Gm
open Go
structure CI (B:Int) (c:Cluster):Prop where
 a:NI B c.n0
 b:NI B c.n1
 dl:c.link.up=false->c.n0.state=0∧c.n1.state=0
theorem lose_false {B:Int} {c:CO} (a:NI B c.1.n0):NI B (loseC c false).1.n0∧(loseC c false).1.n0.state=0∧(loseC c false).1.n1=c.1.n1:=by
 unfold loseC
 split
 ·rename_i e;exact⟨a,a.dn e,rfl⟩
 ·have h:=ni_lose a
  dsimp only
  split
  ·exact⟨h.1,h.2,rfl⟩
  ·exact⟨h.1,h.2,rfl⟩
theorem lose_true {B:Int} {c:CO} (b:NI B c.1.n1):NI B (loseC c true).1.n1∧(loseC c true).1.n1.state=0∧(loseC c true).1.n0=c.1.n0:=by
 unfold loseC
 split
 ·rename_i e;exact⟨b,b.dn e,rfl⟩
 ·have h:=ni_lose b
  dsimp only
  split
  ·exact⟨h.1,h.2,rfl⟩
  ·exact⟨h.1,h.2,rfl⟩
theorem ci_end {B:Int} {c:Cluster} {out:List Outp} (a:NI B c.n0) (b:NI B c.n1):CI B (endC c out).1:=by
 obtain ⟨h1,h2,h3⟩:=lose_false (c:=({ c with link:=closeL c.link },out)) a
 obtain ⟨k1,k2,k3⟩:=lose_true (c:=loseC ({ c with link:=closeL c.link },out) false) (by rw [h3];exact b)
 unfold endC
 exact⟨by rw [k3];exact h1,k1,fun _=>⟨by rw [k3];exact h2,k2⟩⟩
theorem ci_set {B:Int} {c:Cluster} {n:Node} (h:CI B c) (hn:NI B n) (i:Bool) (h0:c.link.up=false->n.state=0):CI B (setN c i n):=by
 cases i
 ·exact⟨hn,h.b,fun e=>⟨h0 e,(h.dl e).2⟩⟩
 ·exact⟨h.a,hn,fun e=>⟨(h.dl e).1,h0 e⟩⟩
theorem ci_want {B:Int} {c:Cluster} (h:CI B c) (i w:Bool):CI B (setW c i w):=by cases i <;> exact⟨h.a,h.b,h.dl⟩
theorem ci_put {B:Int} {c:Cluster} {l:List Outp} (h:CI B c) (i:Bool):CI B (putC c i l):=by
 unfold putC
 split
 ·rename_i e
  have:(setTo c.link (!i) (toC c.link (!i)++(l.filter fun o=>o.kind==1).map (·.data))).up=c.link.up:=by cases i <;> rfl
  exact⟨h.a,h.b,fun x=>by rw [this] at x;exact h.dl x⟩
 ·exact h
theorem ci_after {B:Int} {c:Cluster} {r:NO} (h:CI B c) (i:Bool) (hn:NI B r.1) (h0:c.link.up=false->r.1.state=0):CI B (afterC c i r).1:=by
 have h1:CI B (putC (setN c i r.1) i r.2):=ci_put (ci_set h hn i h0) i
 unfold afterC
 dsimp only
 have h2:CI B (if r.1.up=false then setW (putC (setN c i r.1) i r.2) i false else putC (setN c i r.1) i r.2):=by
  split
  ·exact ci_want h1 _ _
  ·exact h1
 generalize (if r.1.up=false then setW (putC (setN c i r.1) i r.2) i false else putC (setN c i r.1) i r.2)=c2 at h2 ⊢
 split
 ·exact h2
 ·split
  ·exact ci_end h2.a h2.b
  ·exact ci_end h2.a h2.b
theorem CI.node {B:Int} {c:Cluster} (h:CI B c) (i:Bool):NI B (nodeC c i):=by cases i;exact h.a;exact h.b
theorem CI.zero {B:Int} {c:Cluster} (h:CI B c) (i:Bool) (e:c.link.up=false):(nodeC c i).state=0:=by cases i;exact(h.dl e).1;exact(h.dl e).2
end Gm

set_option maxRecDepth 100000
namespace Gm
open Go
theorem keep0 {m:Node} {r:Store×Int} (hm:m.state=0):(keepN m r).1.state=0:=by
 unfold keepN
 split
 ·exact hm
 ·rfl
section
variable {n:Node} (s:n.state=0)
include s
theorem promote0 {id:Int}:(promoteN n id).1.state=0:=by
 have hc:(commitN n (priS n.store.sup true)).1.state=0:=keep0 s
 unfold promoteN
 repeat' split
 all_goals first
  | exact s
  | exact hc
theorem demote0 {id:Int}:(demoteN n id).1.state=0:=by
 have hc:(commitN n (priS n.store.sup false)).1.state=0:=keep0 s
 unfold demoteN
 repeat' split
 all_goals first
  | exact s
  | exact hc
theorem discard0 {id:Int}:(discardN n id).1.state=0:=by
 have hc:(commitN n { n.store.sup with dis:=true }).1.state=0:=keep0 s
 unfold discardN
 repeat' split
 all_goals first
  | exact s
  | exact hc
theorem mint0:(mintN n).1.state=0:=by
 unfold mintN
 split
 ·exact s
 split
 ·exact s
 dsimp only
 split
 ·exact keep0 s
 ·exact keep0 s
theorem wrote0 {id b:Int} {data:Str}:(wroteN n id b data).1.state=0:=by
 have hl:(layN n b data).1.state=0:=by
  unfold layN
  dsimp only
  split
  ·exact keep0 (keep0 s)
  ·exact keep0 s
 unfold wroteN
 repeat' split
 all_goals exact hl
theorem write0 {id b:Int} {data:Str}:(writeN n id b data).1.state=0:=by
 have hm:(if n.state=0∧n.minted=false then mintN n else(n,0)).1.state=0:=by
  split
  ·exact mint0 s
  ·exact s
 rw [write_of]
 generalize (if n.state=0∧n.minted=false then mintN n else(n,0))=q at hm ⊢
 repeat' split
 all_goals first
  | exact s
  | exact hm
  | exact wrote0 hm
theorem receive0 {b:Str}:(receiveN n b).1.state=0:=by
 unfold receiveN
 rw [if_pos (.inr s)]
 exact s
theorem attach0 {keeps:List Bool}:(attachN n keeps).1.state=0:=by
 unfold attachN
 repeat' split
 all_goals first
  | exact s
  | rfl
end
theorem ni_read {B:Int} {n:Node} (h:NI B n) {id b:Int}:NI B (readN n id b).1:=by
 unfold readN
 repeat' split
 all_goals exact h
theorem read0 {n:Node} (s:n.state=0) {id b:Int}:(readN n id b).1.state=0:=by
 unfold readN
 repeat' split
 all_goals exact s
theorem after_begin {c:Cluster} {i:Bool} {s:Int} (hu:(nodeC c i).up=true):(afterC c i (beginN (nodeC c i) s)).1=putC (setN c i (beginN (nodeC c i) s).1) i (beginN (nodeC c i) s).2:=by
 unfold afterC
 dsimp only
 have h1:(beginN (nodeC c i) s).1.up=true:=hu
 have h2:((beginN (nodeC c i) s).2.any fun o=>o.kind==3)=false:=rfl
 rw [if_neg (show ¬ (beginN (nodeC c i) s).1.up=false from nf h1),if_pos (.inr ⟨h1,h2⟩)]
theorem put_n1 (c:Cluster) (n:Node) (l:List Outp):(putC (setN c false n) false l).n1=c.n1:=by
 unfold putC
 split <;> rfl
theorem ci_connect {B:Int} {c:Cluster} (h:CI B c) (i:Bool):CI B (connectC c i).1:=by
 unfold connectC
 split
 ·exact h
 rename_i u1
 dsimp only
 split
 ·exact ci_want h _ _
 rename_i u2
 have up1:(nodeC c i).up=true:=by simpa using u1
 have hw:=ci_want h i true
 have l0:(setW c i true).link.up=false:=by
  cases e:(setW c i true).link.up with
  | false=>rfl
  | true=>exact(u2 (.inr (.inr e))).elim
 have up2:(nodeC (setW c i true) (!i)).up=true:=by
  cases e:(nodeC (setW c i true) (!i)).up with
  | true=>rfl
  | false=>exact(u2 (.inr (.inl e))).elim
 have ups:(setW c i true).n0.up=true∧(setW c i true).n1.up=true:=by
  cases i
  ·exact⟨up1,up2⟩
  ·exact⟨up2,up1⟩
 have h2:CI B { setW c i true with link:=openL (setW c i true).link }:=⟨hw.a,hw.b,fun e=>by cases e⟩
 have ha:=ci_after h2 false (ni_begin (s:=(openL (setW c i true).link).session) ups.1 hw.a (hw.dl l0).1) (fun e=>by cases e)
 have e1:=after_begin (c:={ setW c i true with link:=openL (setW c i true).link }) (i:=false) (s:=(openL (setW c i true).link).session) ups.1
 have n1:(afterC { setW c i true with link:=openL (setW c i true).link } false (beginN (setW c i true).n0 (openL (setW c i true).link).session)).1.n1=(setW c i true).n1:=by
  have e1:(afterC { setW c i true with link:=openL (setW c i true).link } false (beginN (setW c i true).n0 (openL (setW c i true).link).session)).1=_:=e1
  rw [e1]
  exact put_n1 _ _ _
 refine ci_after ha true (ni_begin (by rw [n1];exact ups.2) (by rw [n1];exact hw.b) (by rw [n1];exact(hw.dl l0).2)) (fun e=>?_)
 have e1:(afterC { setW c i true with link:=openL (setW c i true).link } false (beginN (setW c i true).n0 (openL (setW c i true).link).session)).1=_:=e1
 rw [e1] at e
 unfold putC at e
 rw [if_pos (show(setN { setW c i true with link:=openL (setW c i true).link } false _).link.up=true from rfl)] at e
 cases e
end Gm

set_option maxRecDepth 100000
namespace Gm
open Go
theorem dw_fmt {b:Int} {g:Nat} (hb:1≤b∧b≤32) (hg:g≠0) (h64:g < 18446744073709551616):DW b (fmtV b g).1:=by
 unfold fmtV
 rw [if_pos ⟨hb.1,hb.2,hg⟩]
 have w:wSup (supN b g):=⟨⟨by show(-9223372036854775808:Int)≤b;omega,by show b≤(9223372036854775807:Int);omega⟩,⟨by show(0:Int)≤(g:Int);omega,by show(g:Int)≤(18446744073709551615:Int);omega⟩,u64_0,u64_0,u64_0⟩
 have r:supR (supN b g)=true:=by
  unfold supR supN
  rw [Bool.and_eq_true]
  refine⟨decide_eq_true hb,?_⟩
  have:((g:Int)==0)=false:=beq_eq_false_iff_ne.2 (by omega)
  rw [this];rfl
 refine⟨?_,hb,fun w m=>(by cases m),fun x=>⟨fun y hy=>?_,fun w m=>(by cases m)⟩⟩
 ·show((fmtS b.toNat g).length:Int)=b+2
  unfold fmtS
  simp only [List.length_cons,List.length_replicate]
  omega
 ·have hy:(fmtS b.toNat g)[x]? = some y:=hy
  unfold fmtS at hy
  match x,hy with
  | 0,hy=>
   cases hy
   refine⟨fun _=>⟨supN b g,?_,rfl,r,w⟩,fun h=>(by cases h),fun h=>(by omega)⟩
   rfl
  | 1,hy=>
   cases hy
   refine⟨fun h=>(by cases h),fun _=>⟨0,rfl,?_⟩,fun h=>(by omega)⟩
   unfold maskR
   refine decide_eq_true ⟨hb.1,hb.2,?_⟩
   have:=Nat.two_pow_pos b.toNat
   have h2:(2:Int) ^ b.toNat=((2 ^ b.toNat:Nat):Int):=by simp
   rw [h2]
   omega
  | x+2,hy=>
   simp only [List.getElem?_cons_succ,List.getElem?_replicate] at hy
   split at hy
   ·cases hy
    exact good_data (by omega) rfl
   ·cases hy
theorem cw_reach {b:Int} {l:List Event} (he:∀ e∈l,OkE e):CW (1+b % 4) (reachC b l):=by
 unfold reachC
 have hb:1≤1+b % 4∧1+b % 4≤32:=by omega
 refine cw_play (N:=64) (by omega) okC_new he ?_
 have d:=dw_fmt (g:=7) hb (by decide) (by decide)
 have nw:∀ i:Int,NW (1+b % 4) (newN i (1+b % 4) 7):=fun i=>nw_attach ⟨d,fun e=>by cases e⟩
 unfold newC
 rw [if_neg ?_]
 ·exact⟨nw 0,nw 1⟩
 ·unfold fmtV
  rw [if_pos ⟨hb.1,hb.2,by decide⟩]
  simp
end Gm

set_option maxRecDepth 100000
namespace Gm
open Go
theorem ci_at {B:Int} {N:Nat} {c:Cluster} {e:Event} (h64:64≤N) (o:OkC N c) (w:CW B c) (h:CI B c) (i:Bool):CI B (doAt c e i).1:=by
 have on:=o.node i
 have hw:=w.node i
 have hn:=h.node i
 have hz:=h.zero i
 unfold doAt
 refine ite_of (P:=fun r:CO=>CI B r.1) (fun _=>?_) (fun _=>?_)
 ·exact ci_after h i (ni_promote hn) (fun e=>promote0 (hz e))
 refine ite_of (P:=fun r:CO=>CI B r.1) (fun _=>?_) (fun _=>?_)
 ·exact ci_after h i (ni_demote hn) (fun e=>demote0 (hz e))
 refine ite_of (P:=fun r:CO=>CI B r.1) (fun _=>?_) (fun _=>?_)
 ·exact ci_after h i (ni_discard hn) (fun e=>discard0 (hz e))
 refine ite_of (P:=fun r:CO=>CI B r.1) (fun _=>?_) (fun _=>?_)
 ·exact ci_after h i (ni_read hn) (fun e=>read0 (hz e))
 refine ite_of (P:=fun r:CO=>CI B r.1) (fun _=>?_) (fun _=>?_)
 ·exact ci_after h i (ni_write hn) (fun e=>write0 (hz e))
 refine ite_of (P:=fun r:CO=>CI B r.1) (fun _=>?_) (fun _=>?_)
 ·exact ci_connect h i
 refine ite_of (P:=fun r:CO=>CI B r.1) (fun _=>?_) (fun _=>?_)
 ·have h1:CI B (if e.kind=7 then setW c i false else c):=by
   split
   ·exact ci_want h _ _
   ·exact h
  generalize (if e.kind=7 then setW c i false else c)=c1 at h1 ⊢
  split
  ·exact ci_end h1.a h1.b
  ·exact h1
 refine ite_of (P:=fun r:CO=>CI B r.1) (fun _=>?_) (fun _=>?_)
 ·split
  ·exact h
  ·rename_i b r hq
   have e:(setTo c.link i r).up=c.link.up:=by cases i <;> rfl
   have h1:CI B { c with link:=setTo c.link i r }:=⟨h.a,h.b,fun x=>h.dl (e ▸ x)⟩
   exact ci_after h1 i (ni_receive h64 on hw hn) (fun x=>receive0 (hz (e ▸ x)))
 refine ite_of (P:=fun r:CO=>CI B r.1) (fun _=>?_) (fun _=>?_)
 ·split
  ·exact ci_after h i ni_down (fun _=>rfl)
  ·exact h
 refine ite_of (P:=fun r:CO=>CI B r.1) (fun _=>?_) (fun _=>?_)
 ·exact ci_set h (ni_attach hn) i (fun e=>attach0 (hz e))
 refine ite_of (P:=fun r:CO=>CI B r.1) (fun _=>?_) (fun _=>?_)
 ·split
  ·exact ci_after h i (hn.same rfl rfl rfl rfl) (fun e=>hz e)
  ·exact ci_after h i hn (fun e=>hz e)
 refine ite_of (P:=fun r:CO=>CI B r.1) (fun _=>?_) (fun _=>?_)
 ·split
  ·refine ci_set h ?_ i ?_
   ·exact hn.same rfl rfl rfl rfl
   ·exact fun e=>hz e
  ·exact ci_set h hn i (fun e=>hz e)
 refine ite_of (P:=fun r:CO=>CI B r.1) (fun _=>?_) (fun _=>?_)
 ·split
  ·exact h
  ·exact ci_after h i (ni_receive h64 on hw hn) (fun x=>receive0 (hz x))
 ·exact h
theorem ci_do {B:Int} {N:Nat} {c:Cluster} {e:Event} (h64:64≤N) (o:OkC N c) (w:CW B c) (h:CI B c):CI B (doC c e).1:=by
 unfold doC
 split
 ·exact ci_at h64 o w h false
 split
 ·exact ci_at h64 o w h true
 ·exact h
theorem ci_play {B:Int}:∀ {l:List Event} {N:Nat} {c:Cluster},64≤N->OkC N c->(∀ e∈l,OkE e)->CW B c->CI B c->CI B (playC c l)
 | [],_,_,_,_,_,_,h=>h
 | e :: l,_,_,h64,o,he,w,h=>ci_play (l:=l) (by omega) (okC_do o h64 (he e (by simp))) (fun x hx=>he x (by simp [hx])) (cw_do h64 o (he e (by simp)) w) (ci_do h64 o w h)
theorem ci_reach {b:Int} {l:List Event} (he:∀ e∈l,OkE e):CI (1+b % 4) (reachC b l):=by
 have nr:∀ (i:Int) (d:Disk),NI (1+b % 4) ⟨i,false,⟨d,zS,0⟩,false,0,0,zeroH,false,zR,false,0,0,false,[],[]⟩:=fun i d=>⟨fun _=>rfl,fun _=>rfl,fun x=>absurd x (by show ¬ ((0:Int)=4);decide)⟩
 have hc:CI (1+b % 4) (newC (1+b % 4) 7).1:=by
  unfold newC
  split
  ·exact⟨nr 0 noD,nr 0 noD,fun _=>⟨rfl,rfl⟩⟩
  ·exact⟨ni_attach (nr 0 _),ni_attach (nr 1 _),fun _=>⟨attach0 rfl,attach0 rfl⟩⟩
 have w0:CW (1+b % 4) (reachC b []):=cw_reach (l:=[]) (fun x h=>by cases h)
 exact ci_play (N:=64) (by omega) okC_new he w0 hc
end Gm

set_option maxRecDepth 100000
namespace Gm
open Go
theorem id_keep {n:Node} {r:Store×Int}:(keepN n r).1.id=n.id:=by unfold keepN;split <;> rfl
theorem id_promote {n:Node} {x:Int}:(promoteN n x).1.id=n.id:=by
 unfold promoteN
 repeat' split
 all_goals first
  | rfl
  | exact id_keep
theorem id_demote {n:Node} {x:Int}:(demoteN n x).1.id=n.id:=by
 unfold demoteN
 repeat' split
 all_goals first
  | rfl
  | exact id_keep
theorem id_discard {n:Node} {x:Int}:(discardN n x).1.id=n.id:=by
 unfold discardN
 repeat' split
 all_goals first
  | rfl
  | exact id_keep
theorem id_readN {n:Node} {x b:Int}:(readN n x b).1.id=n.id:=by
 unfold readN
 repeat' split
 all_goals rfl
theorem id_mint {n:Node}:(mintN n).1.id=n.id:=by
 unfold mintN
 split
 ·rfl
 split
 ·rfl
 ·dsimp only
  split
  ·exact id_keep
  ·exact id_keep
theorem id_lay {n:Node} {b:Int} {data:Str}:(layN n b data).1.id=n.id:=by
 unfold layN
 dsimp only
 split
 ·exact id_keep.trans id_keep
 ·exact id_keep
theorem id_wrote {n:Node} {x b:Int} {data:Str}:(wroteN n x b data).1.id=n.id:=by
 unfold wroteN
 repeat' split
 all_goals exact id_lay
theorem id_write {n:Node} {x b:Int} {data:Str}:(writeN n x b data).1.id=n.id:=by
 have hm:(if n.state=0∧n.minted=false then mintN n else(n,0)).1.id=n.id:=by
  split
  ·exact id_mint
  ·rfl
 rw [write_of]
 generalize (if n.state=0∧n.minted=false then mintN n else(n,0))=q at hm ⊢
 repeat' split
 all_goals first
  | rfl
  | exact hm
  | exact id_wrote.trans hm
theorem id_wipe {n:Node} {b:Int}:(wipeN n b).1.id=n.id:=id_keep
theorem id_acked {n:Node} {b:Int}:(ackedN n b).1.id=n.id:=by
 unfold ackedN
 split
 ·rfl
 ·dsimp only
  split
  ·exact id_wipe
  ·exact id_wipe
theorem id_apply {n:Node} {b:Int} {data:Str}:(applyN n b data).1.id=n.id:=by
 unfold applyN
 split
 ·exact id_lay
 ·exact id_lay
theorem id_lose {n:Node}:(loseN n).1.id=n.id:=by
 unfold loseN
 split
 ·rfl
 ·dsimp only
  split
  ·rfl
  ·split
   ·exact id_mint
   ·exact id_mint
theorem id_seek {n:Node}:(seekN n).1.id=n.id:=by
 unfold seekN
 split
 ·rfl
 split
 ·rfl
 ·dsimp only
  split
  ·exact id_keep
  ·exact id_keep
theorem id_got {n:Node} {b:Int} {data:Str}:(gotN n b data).1.id=n.id:=by
 unfold gotN
 split
 ·rfl
 dsimp only
 split
 ·exact id_keep
 split
 ·exact id_wipe.trans id_keep
 ·exact id_seek.trans (id_wipe.trans id_keep)
theorem id_copied {n:Node} {b:Int}:(copiedN n b).1.id=n.id:=by
 unfold copiedN
 split
 ·rfl
 ·exact id_wipe
theorem id_ended {n:Node}:(endedN n).1.id=n.id:=by
 unfold endedN
 dsimp only
 split
 ·exact id_keep
 ·exact id_keep
theorem id_met {n:Node} {h:Hello}:(metN n h).1.id=n.id:=by
 unfold metN
 dsimp only
 split
 ·rfl
 split
 ·split
  ·exact id_keep
  ·exact id_keep
 split
 ·exact id_keep
 split
 ·exact id_keep
 split
 ·exact id_keep.trans id_keep
 ·exact id_seek.trans (id_keep.trans id_keep)
theorem id_roles {n:Node} {k:Int}:(rolesN n k).1.id=n.id:=by
 unfold rolesN
 split
 ·split <;> rfl
 split
 ·rfl
 split
 ·rfl
 ·dsimp only
  split
  ·exact id_keep
  ·exact id_keep
theorem id_take {n:Node} {p:Packet}:(takeN n p).1.id=n.id:=by
 unfold takeN
 split
 ·exact id_met
 split
 ·exact id_apply
 split
 ·exact id_acked
 split
 ·exact id_wipe
 split
 ·rfl
 split
 ·exact id_got
 split
 ·exact id_copied
 split
 ·exact id_ended
 split
 ·rfl
 ·exact id_roles
theorem id_receive {n:Node} {b:Str}:(receiveN n b).1.id=n.id:=by
 unfold receiveN
 split
 ·rfl
 split
 ·rfl
 split
 ·rfl
 ·exact id_take
theorem id_attach {n:Node} {keeps:List Bool}:(attachN n keeps).1.id=n.id:=by
 unfold attachN
 repeat' split
 all_goals rfl
def IdC (c:Cluster):Prop:=c.n0.id=0∧c.n1.id=1
theorem IdC.node {c:Cluster} (h:IdC c) (i:Bool):(nodeC c i).id=bI i:=by cases i;exact h.1;exact h.2
theorem idc_set {c:Cluster} {n:Node} (h:IdC c) (i:Bool) (hn:n.id=(nodeC c i).id):IdC (setN c i n):=by
 cases i
 ·exact⟨hn.trans h.1,h.2⟩
 ·exact⟨h.1,hn.trans h.2⟩
theorem idc_want {c:Cluster} (h:IdC c) (i w:Bool):IdC (setW c i w):=by cases i <;> exact h
theorem idc_put {c:Cluster} {l:List Outp} (h:IdC c) (i:Bool):IdC (putC c i l):=by
 unfold putC
 split <;> exact h
theorem idc_lose {c:CO} (h:IdC c.1) (i:Bool):IdC (loseC c i).1:=by
 unfold loseC
 split
 ·exact h
 ·dsimp only
  have h1:=idc_set h i (id_lose (n:=nodeC c.1 i))
  split
  ·exact idc_want h1 _ _
  ·exact h1
theorem idc_end {c:Cluster} {out:List Outp} (h:IdC c):IdC (endC c out).1:=
 idc_lose (c:=loseC ({ c with link:=closeL c.link },out) false) (idc_lose (c:=({ c with link:=closeL c.link },out)) h false) true
theorem idc_after {c:Cluster} {r:NO} (h:IdC c) (i:Bool) (hn:r.1.id=(nodeC c i).id):IdC (afterC c i r).1:=by
 have h1:IdC (putC (setN c i r.1) i r.2):=idc_put (idc_set h i hn) i
 unfold afterC
 dsimp only
 have h2:IdC (if r.1.up=false then setW (putC (setN c i r.1) i r.2) i false else putC (setN c i r.1) i r.2):=by
  split
  ·exact idc_want h1 _ _
  ·exact h1
 generalize (if r.1.up=false then setW (putC (setN c i r.1) i r.2) i false else putC (setN c i r.1) i r.2)=c2 at h2 ⊢
 split
 ·exact h2
 ·refine idc_end ?_
  split
  ·exact h2
  ·exact h2
theorem idc_connect {c:Cluster} (h:IdC c) (i:Bool):IdC (connectC c i).1:=by
 unfold connectC
 split
 ·exact h
 dsimp only
 split
 ·exact idc_want h _ _
 have h2:IdC { setW c i true with link:=openL (setW c i true).link }:=idc_want h i true
 have ha:=idc_after (r:=beginN (setW c i true).n0 (openL (setW c i true).link).session) h2 false rfl
 exact idc_after ha true rfl
theorem idc_at {c:Cluster} {e:Event} (h:IdC c) (i:Bool):IdC (doAt c e i).1:=by
 unfold doAt
 refine ite_of (P:=fun r:CO=>IdC r.1) (fun _=>?_) (fun _=>?_)
 ·exact idc_after h i id_promote
 refine ite_of (P:=fun r:CO=>IdC r.1) (fun _=>?_) (fun _=>?_)
 ·exact idc_after h i id_demote
 refine ite_of (P:=fun r:CO=>IdC r.1) (fun _=>?_) (fun _=>?_)
 ·exact idc_after h i id_discard
 refine ite_of (P:=fun r:CO=>IdC r.1) (fun _=>?_) (fun _=>?_)
 ·exact idc_after h i id_readN
 refine ite_of (P:=fun r:CO=>IdC r.1) (fun _=>?_) (fun _=>?_)
 ·exact idc_after h i id_write
 refine ite_of (P:=fun r:CO=>IdC r.1) (fun _=>?_) (fun _=>?_)
 ·exact idc_connect h i
 refine ite_of (P:=fun r:CO=>IdC r.1) (fun _=>?_) (fun _=>?_)
 ·have h1:IdC (if e.kind=7 then setW c i false else c):=by
   split
   ·exact idc_want h _ _
   ·exact h
  generalize (if e.kind=7 then setW c i false else c)=c1 at h1 ⊢
  split
  ·exact idc_end h1
  ·exact h1
 refine ite_of (P:=fun r:CO=>IdC r.1) (fun _=>?_) (fun _=>?_)
 ·split
  ·exact h
  ·rename_i b r hq
   exact idc_after (c:={ c with link:=setTo c.link i r }) h i (by cases i <;> exact id_receive)
 refine ite_of (P:=fun r:CO=>IdC r.1) (fun _=>?_) (fun _=>?_)
 ·split
  ·exact idc_after h i rfl
  ·exact h
 refine ite_of (P:=fun r:CO=>IdC r.1) (fun _=>?_) (fun _=>?_)
 ·exact idc_set h i id_attach
 refine ite_of (P:=fun r:CO=>IdC r.1) (fun _=>?_) (fun _=>?_)
 ·split
  ·exact idc_after h i rfl
  ·exact idc_after h i rfl
 refine ite_of (P:=fun r:CO=>IdC r.1) (fun _=>?_) (fun _=>?_)
 ·refine idc_set h i ?_
  split <;> rfl
 refine ite_of (P:=fun r:CO=>IdC r.1) (fun _=>?_) (fun _=>?_)
 ·split
  ·exact h
  ·exact idc_after h i id_receive
 ·exact h
theorem idc_play:∀ {l:List Event} {c:Cluster},IdC c->IdC (playC c l)
 | [],_,h=>h
 | e :: l,c,h=>idc_play (l:=l) (by
  unfold doC
  split
  ·exact idc_at h false
  split
  ·exact idc_at h true
  ·exact h)
theorem idc_reach {b:Int} {l:List Event}:IdC (reachC b l):=by
 refine idc_play ?_
 have h:(newC (1+b % 4) 7).1.n0.id=0∧(newC (1+b % 4) 7).1.n1.id=1:=by
  unfold newC
  rw [if_neg ?_]
  ·exact⟨id_attach,id_attach⟩
  ·unfold fmtV
   rw [if_pos (show 1≤1+b % 4∧1+b % 4≤32∧(7:Nat)≠0 from ⟨by omega,by omega,by decide⟩)]
   simp
 exact h
end Gm

set_option maxRecDepth 100000
namespace Gm
open Go
theorem onto_of {k s:Int} {t:Hello} (h:(ontoV k s t).kind≠4):ontoV k s t=⟨k,s⟩∧t.pri=false∧k≠4:=by
 unfold ontoV at h ⊢
 split
 ·rename_i c
  rw [if_pos c] at h
  exact(h rfl).elim
 ·rename_i c
  refine⟨rfl,?_,fun e=>c (.inr e)⟩
  cases e:t.pri with
  | true=>exact(c (.inl e)).elim
  | false=>rfl
inductive Dec (x y:Hello):Verdict->Prop
 | refuse:Dec x y noVer
 | none:x.inc=false->y.inc=false->x.vector.current=y.vector.current->x.mask=0->y.mask=0->x.blocks=y.blocks->Dec x y ⟨1,-1⟩
 | onto0 (k:Int):k=2∨k=3->x.inc=false->y.pri=false->x.blocks=y.blocks->Dec x y ⟨k,0⟩
 | onto1 (k:Int):k=2∨k=3->y.inc=false->x.pri=false->x.blocks=y.blocks->Dec x y ⟨k,1⟩
theorem half_23 {s t:Hello} (h:halfV s t≠4):halfV s t=2∨halfV s t=3:=by
 unfold halfV at h ⊢
 repeat' split
 all_goals first
  | exact .inl rfl
  | exact .inr rfl
  | (exfalso;simp_all)
theorem kinds_23 {p:Int} (h:kindsV p≠4):kindsV p=2∨kindsV p=3:=by
 unfold kindsV at h ⊢
 repeat' split
 all_goals first
  | exact .inl rfl
  | exact .inr rfl
  | (exfalso;simp_all)
theorem dec_onto0 {x y:Hello} {k:Int} (hk:k≠4->k=2∨k=3) (hi:x.inc=false) (hb:x.blocks=y.blocks):Dec x y (ontoV k 0 y):=by
 by_cases h:(ontoV k 0 y).kind=4
 ·have e:ontoV k 0 y=noVer:=by
   unfold ontoV at h ⊢
   split
   ·rfl
   ·rename_i c
    rw [if_neg c] at h
    exact(c (.inr h)).elim
  rw [e]
  exact .refuse
 ·obtain ⟨e,hp,h4⟩:=onto_of h
  rw [e]
  exact .onto0 k (hk h4) hi hp hb
theorem dec_onto1 {x y:Hello} {k:Int} (hk:k≠4->k=2∨k=3) (hi:y.inc=false) (hb:x.blocks=y.blocks):Dec x y (ontoV k 1 x):=by
 by_cases h:(ontoV k 1 x).kind=4
 ·have e:ontoV k 1 x=noVer:=by
   unfold ontoV at h ⊢
   split
   ·rfl
   ·rename_i c
    rw [if_neg c] at h
    exact(c (.inr h)).elim
  rw [e]
  exact .refuse
 ·obtain ⟨e,hp,h4⟩:=onto_of h
  rw [e]
  exact .onto1 k (hk h4) hi hp hb
theorem dec_of (x y:Hello):Dec x y (decideV x y):=by
 have bf:∀ {b:Bool},¬ b=true->b=false:=fun {b} h=>by cases b with | true=>exact(h rfl).elim | false=>rfl
 unfold decideV
 split
 ·exact .refuse
 rename_i c
 have hb:x.blocks=y.blocks:=Decidable.byContradiction fun e=>c (.inl e)
 have hinc:¬ (x.inc=true∧y.inc=true):=fun e=>c (.inr (.inr (.inl e)))
 split
 ·rename_i e
  exact dec_onto1 half_23 (bf fun e2=>hinc ⟨e,e2⟩) hb
 rename_i hx
 split
 ·exact dec_onto0 half_23 (bf hx) hb
 rename_i hy
 have hx:=bf hx
 have hy:=bf hy
 split
 ·exact dec_onto1 (fun _=>.inr rfl) hy hb
 split
 ·exact dec_onto0 (fun _=>.inr rfl) hx hb
 split
 ·rename_i hcur
  split
  ·rename_i hm
   exact .none hx hy hcur hm.1 hm.2 hb
  split
  ·exact dec_onto1 (fun _=>.inl rfl) hy hb
  ·exact dec_onto0 (fun _=>.inl rfl) hx hb
 split
 ·exact dec_onto0 kinds_23 hx hb
 split
 ·exact dec_onto1 kinds_23 hy hb
 ·exact .refuse
structure PI (n:Node):Prop where
 p1:n.primary=true->n.store.sup.inc=false
 p2:n.asking=true->n.state=2∨n.state=3
 p3:n.state=2∨n.state=3->n.store.sup.inc=false
theorem PI.same {n m:Node} (h:PI n) (h1:m.primary=n.primary) (h2:m.asking=n.asking) (h3:m.state=n.state) (h4:m.store.sup.inc=n.store.sup.inc):PI m:=
 ⟨fun e=>h4.trans (h.p1 (h1.symm.trans e)),fun e=>by rw [h3];exact h.p2 (h2.symm.trans e),fun e=>h4.trans (h.p3 (by rw [← h3];exact e))⟩
theorem PI.less {n m:Node} (h:PI n) (h1:m.primary=n.primary) (h2:m.asking=n.asking) (h3:m.state=n.state) (h4:m.store.sup.inc=n.store.sup.inc∨m.store.sup.inc=false):PI m:=by
 rcases h4 with h4 | h4
 ·exact h.same h1 h2 h3 h4
 ·exact⟨fun _=>h4,fun e=>by rw [h3];exact h.p2 (h2.symm.trans e),fun _=>h4⟩
theorem pi_bare {n:Node} {up pri:Bool} {s:Store} (h:pri=true->s.sup.inc=false):PI (bareN n up s pri):=
 ⟨h,fun e=>(by cases e),fun e=>by rcases e with e | e <;> cases e⟩
theorem pi_down {n:Node}:PI (downN n):=pi_bare (fun e=>by cases e)
theorem pi_keep {n:Node} {r:Store×Int} (h:PI n) (hi:r.2=0->r.1.sup.inc=n.store.sup.inc∨r.1.sup.inc=false):PI (keepN n r).1:=by
 unfold keepN
 split
 ·rename_i e
  exact h.less rfl rfl rfl (hi e)
 ·exact pi_down
theorem pi_commit {n:Node} {b:Super} (h:PI n) (hi:b.inc=n.store.sup.inc∨b.inc=false):PI (commitN n b).1:=
 pi_keep h (fun e=>by rw [commit_inc e];exact hi)
theorem commit_kept {n:Node} {b:Super} (e:(commitN n b).2=true):(commitN n b).1.store.sup=b∧(commitN n b).1.state=n.state∧(commitN n b).1.asking=n.asking∧(commitN n b).1.primary=n.primary:=by
 obtain ⟨h1,h2⟩:=keep_true (n:=n) (r:=stCommit n.store b) e
 have h1:(commitN n b).1=setSt n (stCommit n.store b).1:=h1
 rw [h1]
 exact⟨commit_inc h2,rfl,rfl,rfl⟩
section
variable {n:Node} (h:PI n)
include h
theorem pi_promote {id:Int}:PI (promoteN n id).1:=by
 unfold promoteN
 split
 ·exact h
 split
 ·exact h
 split
 ·exact h
 rename_i hi
 have hi:n.store.sup.inc=false:=by cases e:n.store.sup.inc with | true=>exact(hi e).elim | false=>rfl
 split
 ·exact h
 split
 ·exact h
 split
 ·exact h
 split
 ·rename_i hl
  have hl:n.state=2∨n.state=3:=by
   unfold linkedN at hl
   rcases Bool.or_eq_true_iff.1 hl with e | e
   ·exact .inl (eq_of_beq e)
   ·exact .inr (eq_of_beq e)
  exact⟨h.p1,fun _=>hl,h.p3⟩
 split
 ·rename_i e
  obtain ⟨e1,e2,e3,_⟩:=commit_kept e
  have ei:(commitN n (priS n.store.sup true)).1.store.sup.inc=false:=by rw [e1];exact hi
  exact⟨fun _=>ei,fun x=>by show(commitN n (priS n.store.sup true)).1.state=2∨(commitN n (priS n.store.sup true)).1.state=3;rw [e2];exact h.p2 (e3.symm.trans x),fun _=>ei⟩
 ·exact pi_commit h (.inl rfl)
theorem pi_demote {id:Int}:PI (demoteN n id).1:=by
 have hc:PI (commitN n (priS n.store.sup false)).1:=pi_commit h (.inl rfl)
 unfold demoteN
 split
 ·exact h
 split
 ·exact h
 split
 ·exact h
 split
 ·exact⟨fun e=>(by cases e),hc.p2,hc.p3⟩
 ·exact hc
theorem pi_discard {id:Int}:PI (discardN n id).1:=by
 have hc:PI (commitN n { n.store.sup with dis:=true }).1:=pi_commit h (.inl rfl)
 unfold discardN
 split
 ·exact h
 split
 ·exact h
 split
 ·exact h
 split
 ·exact hc
 ·exact hc
theorem pi_read {id b:Int}:PI (readN n id b).1:=by
 unfold readN
 repeat' split
 all_goals exact h
theorem pi_mint:PI (mintN n).1:=by
 unfold mintN
 split
 ·exact h
 split
 ·exact h.same rfl rfl rfl rfl
 ·rename_i g r hd hg
  have hm:PI { n with draws:=r,mints:=n.mints++[⟨g,n.store.sup.vector.current,n.id⟩] }:=h.same rfl rfl rfl rfl
  have hc:=pi_commit (b:={ n.store.sup with vector:=mintVec n.store.sup.vector g }) hm (.inl rfl)
  dsimp only
  split
  ·exact hc.same rfl rfl rfl rfl
  ·exact hc
theorem pi_lay {b:Int} {data:Str}:PI (layN n b data).1:=by
 have h1:PI (keepN n (stMark n.store b)).1:=pi_keep h (fun _=>.inl (by rw [mark_sup]))
 unfold layN
 dsimp only
 split
 ·exact pi_keep h1 (fun _=>.inl rfl)
 ·exact h1
theorem pi_wrote {id b:Int} {data:Str}:PI (wroteN n id b data).1:=by
 have hl:=pi_lay h (b:=b) (data:=data)
 unfold wroteN
 split
 ·exact hl
 split
 ·exact hl
 ·exact hl.same rfl rfl rfl rfl
theorem pi_write {id b:Int} {data:Str}:PI (writeN n id b data).1:=by
 have hm:PI (if n.state=0∧n.minted=false then mintN n else(n,0)).1:=by
  split
  ·exact pi_mint h
  ·exact h
 rw [write_of]
 generalize (if n.state=0∧n.minted=false then mintN n else(n,0))=q at hm ⊢
 repeat' split
 all_goals first
  | exact h
  | exact hm
  | exact pi_wrote hm
theorem pi_wipe {b:Int}:PI (wipeN n b).1:=pi_keep h (fun _=>.inl (by rw [wipe_sup]))
omit h in
theorem pi_acked (h:PI n) {b:Int}:PI (ackedN n b).1:=by
 have hw:PI (wipeN { n with req:=zR } b).1:=pi_wipe (n:={ n with req:=zR }) (h.same rfl rfl rfl rfl)
 unfold ackedN
 split
 ·exact h
 ·dsimp only
  split
  ·exact hw
  ·exact hw
theorem pi_apply {b:Int} {data:Str}:PI (applyN n b data).1:=by
 unfold applyN
 split
 ·exact pi_lay h
 ·exact pi_lay h
theorem pi_lose:PI (loseN n).1:=by
 have hb:PI (bareN n n.up n.store n.primary):=pi_bare h.p1
 have hm:=pi_mint hb
 unfold loseN
 split
 ·exact h
 ·dsimp only
  split
  ·exact hb
  ·split
   ·exact hm
   ·exact hm
theorem pi_seek:PI (seekN n).1:=by
 unfold seekN
 split
 ·exact h
 split
 ·exact h.same rfl rfl rfl rfl
 ·have hc:PI (commitN n ⟨n.store.sup.blocks,retire n.peer.vector,false,false,false⟩).1:=pi_commit h (.inr rfl)
  dsimp only
  split
  ·exact hc
  ·exact hc
theorem pi_got {b:Int} {data:Str}:PI (gotN n b data).1:=by
 have h1:PI (keepN n (stPut n.store b data)).1:=pi_keep h (fun _=>.inl rfl)
 have h2:=pi_wipe h1 (b:=b)
 unfold gotN
 split
 ·exact h
 dsimp only
 split
 ·exact h1
 split
 ·exact h2
 ·exact pi_seek (n:={ (wipeN (keepN n (stPut n.store b data)).1 b).1 with wanted:=0 }) (h2.same rfl rfl rfl rfl)
theorem pi_copied {b:Int}:PI (copiedN n b).1:=by
 unfold copiedN
 split
 ·exact h
 ·exact pi_wipe h
theorem pi_ended (s3:n.state=3):PI (endedN n).1:=by
 have hc:PI (commitN n { n.store.sup with vector:=retire n.store.sup.vector,pri:=n.primary }).1:=pi_commit h (.inl rfl)
 unfold endedN
 dsimp only
 split
 ·rename_i e
  obtain ⟨e1,_,_,_⟩:=commit_kept e
  have ei:(commitN n { n.store.sup with vector:=retire n.store.sup.vector,pri:=n.primary }).1.store.sup.inc=false:=by rw [e1];exact h.p3 (.inr s3)
  exact⟨fun _=>ei,fun _=>.inl rfl,fun _=>ei⟩
 ·exact hc
omit h in
theorem pi_done (hi:n.store.sup.inc=false):PI (doneN n):=⟨fun _=>hi,fun _=>.inl rfl,fun _=>hi⟩
theorem pi_begin {s:Int} (s0:n.state=0):PI (beginN n s).1:=
 ⟨h.p1,fun e=>absurd (h.p2 e) (by rw [s0];decide),fun e=>by rcases e with e | e <;> cases e⟩
theorem pi_roles {k:Int} (ha:k=11->n.asking=true) (hk:k=10∨k=11∨k=12∨k=13):PI (rolesN n k).1:=by
 unfold rolesN
 split
 ·split
  ·exact h
  ·exact h.same rfl rfl rfl rfl
 split
 ·exact⟨h.p1,fun e=>(by cases e),h.p3⟩
 split
 ·exact h.same rfl rfl rfl rfl
 ·rename_i k1 k2 k3
  have hi:n.store.sup.inc=false:=h.p3 (h.p2 (ha (by omega)))
  have hc:PI (commitN n (priS n.store.sup true)).1:=pi_commit h (.inl rfl)
  dsimp only
  split
  ·rename_i e
   obtain ⟨e1,_,_,_⟩:=commit_kept e
   have ei:(commitN n (priS n.store.sup true)).1.store.sup.inc=false:=by rw [e1];exact hi
   exact⟨fun _=>ei,fun e=>(by cases e),fun _=>ei⟩
  ·exact hc
end
theorem met_dec {n:Node} {p:Hello} (hid:n.id=0∨n.id=1):(verdictN n p).1=noVer ∨
  ((verdictN n p).1=⟨1,-1⟩∧n.store.sup.inc=false) ∨
  ((verdictN n p).1.kind≠4∧(verdictN n p).1.kind≠1∧(verdictN n p).1.source=n.id∧n.store.sup.inc=false) ∨
  ((verdictN n p).1.kind≠4∧(verdictN n p).1.kind≠1∧(verdictN n p).1.source≠n.id∧n.primary=false):=by
 unfold verdictN
 dsimp only
 rcases hid with e | e
 ·rw [if_neg (show ¬ n.id=1 by omega),if_neg (show ¬ n.id=1 by omega)]
  have hd:=dec_of (ownN n) p
  generalize decideV (ownN n) p=v at hd ⊢
  cases hd with
  | refuse=>exact .inl rfl
  | none h1 _ _ _ _ _=>exact .inr (.inl ⟨rfl,h1⟩)
  | onto0 k hk hi _ _=>exact .inr (.inr (.inl ⟨by show k≠4;omega,by show k≠1;omega,e.symm,hi⟩))
  | onto1 k hk _ hp _=>exact .inr (.inr (.inr ⟨by show k≠4;omega,by show k≠1;omega,by show(1:Int)≠n.id;omega,hp⟩))
 ·rw [if_pos e,if_pos e]
  have hd:=dec_of p (ownN n)
  generalize decideV p (ownN n)=v at hd ⊢
  cases hd with
  | refuse=>exact .inl rfl
  | none _ h1 _ _ _ _=>exact .inr (.inl ⟨rfl,h1⟩)
  | onto0 k hk _ hp _=>exact .inr (.inr (.inr ⟨by show k≠4;omega,by show k≠1;omega,by show(0:Int)≠n.id;omega,hp⟩))
  | onto1 k hk hi _ _=>exact .inr (.inr (.inl ⟨by show k≠4;omega,by show k≠1;omega,e.symm,hi⟩))
theorem join_sup (s:Store) (m:Int):(stJoin s m).1.sup=s.sup:=save_sup s _
theorem pi_met {n:Node} {p:Hello} (h:PI n) (hid:n.id=0∨n.id=1) (s1:n.state=1):PI (metN n p).1:=by
 have ha:n.asking=false:=by
  cases e:n.asking with
  | false=>rfl
  | true=>exact absurd (h.p2 e) (by rw [s1];decide)
 have hv:=met_dec (p:=p) hid
 unfold metN
 dsimp only
 split
 ·exact h
 rename_i k4
 split
 ·rename_i k1
  have hi:n.store.sup.inc=false:=by
   rcases hv with e | ⟨_,e⟩ | ⟨_,e,_⟩ | ⟨_,e,_⟩
   ·rw [e] at k1;cases k1
   ·exact e
   ·exact(e k1).elim
   ·exact(e k1).elim
  have hc:PI (commitN n { n.store.sup with vector:=retire n.store.sup.vector,pri:=n.primary }).1:=pi_commit h (.inl rfl)
  split
  ·rename_i e
   obtain ⟨e1,_,_,_⟩:=commit_kept e
   have ei:(commitN n { n.store.sup with vector:=retire n.store.sup.vector,pri:=n.primary }).1.store.sup.inc=false:=by rw [e1];exact hi
   exact⟨fun _=>ei,fun _=>.inl rfl,fun _=>ei⟩
  ·exact hc
 rename_i k1
 have hj:PI (keepN n (stJoin n.store (verdictN n p).2)).1:=pi_keep h (fun _=>.inl (by rw [join_sup]))
 split
 ·exact hj
 rename_i ej
 obtain ⟨q,_⟩:=keep_true (n:=n) (r:=stJoin n.store (verdictN n p).2) (by simpa using ej)
 rw [q]
 split
 ·rename_i hs
  have hi:n.store.sup.inc=false:=by
   rcases hv with e | ⟨e,_⟩ | ⟨_,_,_,e⟩ | ⟨_,_,e,_⟩
   ·rw [e] at k4;exact(k4 rfl).elim
   ·rw [e] at k1;exact(k1 rfl).elim
   ·exact e
   ·exact(e hs).elim
  have ei:(setSt n (stJoin n.store (verdictN n p).2).1).store.sup.inc=false:=by
   show(stJoin n.store (verdictN n p).2).1.sup.inc=false
   rw [join_sup];exact hi
  exact⟨fun _=>ei,fun _=>.inr rfl,fun _=>ei⟩
 ·rename_i hs
  have hp:n.primary=false:=by
   rcases hv with e | ⟨e,_⟩ | ⟨_,_,e,_⟩ | ⟨_,_,_,e⟩
   ·rw [e] at k4;exact(k4 rfl).elim
   ·rw [e] at k1;exact(k1 rfl).elim
   ·exact(hs e).elim
   ·exact e
  have hc:PI (commitN (setSt n (stJoin n.store (verdictN n p).2).1) { n.store.sup with inc:=true,pri:=false,vector:=fromVec n.store.sup.vector p.vector.current }).1:=by
   unfold commitN keepN
   split
   ·refine⟨fun e=>?_,fun e=>?_,fun e=>?_⟩
    ·rw [show n.primary=true from e] at hp
     cases hp
    ·rw [show n.asking=true from e] at ha
     cases ha
    ·have e:n.state=2∨n.state=3:=e
     rw [s1] at e
     rcases e with e | e <;> cases e
   ·exact pi_down
  split
  ·exact hc
  ·rename_i ec
   obtain ⟨_,_,e3,e4⟩:=commit_kept (n:=setSt n (stJoin n.store (verdictN n p).2).1) (by simpa using ec)
   refine pi_seek (n:=enterN _ 4 p) ⟨fun e=>?_,fun e=>?_,fun e=>by rcases e with e | e <;> cases e⟩
   ·have e:=e4.symm.trans e
    rw [show n.primary=true from e] at hp;cases hp
   ·have e:=e3.symm.trans e
    rw [show n.asking=true from e] at ha;cases ha
end Gm

set_option maxRecDepth 100000
namespace Gm
open Go
theorem pi_take {n:Node} {p:Packet} (h:PI n) (hid:n.id=0∨n.id=1) (f:fitsN n p=true):PI (takeN n p).1:=by
 unfold fitsN at f
 split at f
 ·cases f
 unfold takeN
 by_cases k1:p.kind=1
 ·rw [if_pos k1] at f ⊢
  exact pi_met h hid (eq_t f)
 rw [if_neg k1] at f ⊢
 by_cases k2:p.kind=2
 ·rw [if_pos k2];exact pi_apply h
 rw [if_neg k2] at f ⊢
 by_cases k3:p.kind=3
 ·rw [if_pos k3];exact pi_acked h
 rw [if_neg k3] at f ⊢
 by_cases k4:p.kind=4
 ·rw [if_pos k4];exact pi_wipe h
 rw [if_neg k4] at f ⊢
 by_cases k5:p.kind=5
 ·rw [if_pos k5];exact h
 rw [if_neg k5]
 by_cases k6:p.kind=6
 ·rw [if_pos k6]
  exact pi_got h
 rw [if_neg k6]
 by_cases k7:p.kind=7
 ·rw [if_pos k7];exact pi_copied h
 rw [if_neg k7]
 by_cases k8:p.kind=8
 ·rw [if_pos (by omega)] at f
  rw [if_pos k8]
  exact pi_ended h (eq_t f)
 rw [if_neg k8]
 rw [if_neg (by omega),if_neg k6] at f
 by_cases k9:p.kind=9
 ·rw [if_pos k9] at f
  rw [if_pos k9]
  exact pi_done (by simpa using (Bool.and_eq_true_iff.1 f).2)
 rw [if_neg k9]
 rw [if_neg k9] at f
 by_cases ka:p.kind=10∨p.kind=13
 ·exact pi_roles h (fun e=>by omega) (by omega)
 rw [if_neg ka] at f
 by_cases kb:p.kind=11∨p.kind=12
 ·rw [if_pos kb] at f
  exact pi_roles h (fun _=>(Bool.and_eq_true_iff.1 f).1) (by omega)
 ·rw [if_neg kb] at f
  cases f
theorem pi_receive {n:Node} {b:Str} (h:PI n) (hid:n.id=0∨n.id=1):PI (receiveN n b).1:=by
 unfold receiveN
 split
 ·exact h
 split
 ·exact h
 split
 ·exact h
 rename_i c2
 exact pi_take h hid (by
  cases e:fitsN n (readP b n.session).1 with
  | true=>rfl
  | false=>exact(c2 (.inr e)).elim)
theorem pi_attach {n:Node} {keeps:List Bool} (h:PI n):PI (attachN n keeps).1:=by
 unfold attachN
 split
 ·exact h
 split
 ·exact h.same rfl rfl rfl rfl
 ·exact pi_bare (fun e=>by cases e)
def PC (c:Cluster):Prop:=PI c.n0∧PI c.n1
theorem PC.node {c:Cluster} (h:PC c) (i:Bool):PI (nodeC c i):=by cases i;exact h.1;exact h.2
theorem IdC.two {c:Cluster} (h:IdC c) (i:Bool):(nodeC c i).id=0∨(nodeC c i).id=1:=by cases i;exact .inl h.1;exact .inr h.2
theorem pc_set {c:Cluster} {n:Node} (h:PC c) (i:Bool) (hn:PI n):PC (setN c i n):=by
 cases i
 ·exact⟨hn,h.2⟩
 ·exact⟨h.1,hn⟩
theorem pc_want {c:Cluster} (h:PC c) (i w:Bool):PC (setW c i w):=by cases i <;> exact h
theorem pc_put {c:Cluster} {l:List Outp} (h:PC c) (i:Bool):PC (putC c i l):=by
 unfold putC
 split <;> exact h
theorem pc_lose {c:CO} (h:PC c.1) (i:Bool):PC (loseC c i).1:=by
 unfold loseC
 split
 ·exact h
 ·dsimp only
  have h1:=pc_set h i (pi_lose (h.node i))
  split
  ·exact pc_want h1 _ _
  ·exact h1
theorem pc_end {c:Cluster} {out:List Outp} (h:PC c):PC (endC c out).1:=
 pc_lose (c:=loseC ({ c with link:=closeL c.link },out) false) (pc_lose (c:=({ c with link:=closeL c.link },out)) h false) true
theorem pc_after {c:Cluster} {r:NO} (h:PC c) (i:Bool) (hn:PI r.1):PC (afterC c i r).1:=by
 have h1:PC (putC (setN c i r.1) i r.2):=pc_put (pc_set h i hn) i
 unfold afterC
 dsimp only
 have h2:PC (if r.1.up=false then setW (putC (setN c i r.1) i r.2) i false else putC (setN c i r.1) i r.2):=by
  split
  ·exact pc_want h1 _ _
  ·exact h1
 generalize (if r.1.up=false then setW (putC (setN c i r.1) i r.2) i false else putC (setN c i r.1) i r.2)=c2 at h2 ⊢
 split
 ·exact h2
 ·refine pc_end ?_
  split
  ·exact h2
  ·exact h2
theorem pc_connect {B:Int} {c:Cluster} (hz:CI B c) (h:PC c) (i:Bool):PC (connectC c i).1:=by
 unfold connectC
 split
 ·exact h
 rename_i hu
 dsimp only
 split
 ·exact pc_want h _ _
 rename_i c1
 have hu:(nodeC c i).up=true:=by simpa using hu
 have hnode:∀ j,nodeC (setW c i true) j=nodeC c j:=fun j=>by cases i <;> cases j <;> rfl
 have hlink:(setW c i true).link=c.link:=by cases i <;> rfl
 have hl:c.link.up=false:=by
  cases e:c.link.up with
  | false=>rfl
  | true=>exact(c1 (.inr (.inr (by rw [hlink];exact e)))).elim
 have hup:∀ j,(nodeC (setW c i true) j).up=true:=by
  intro j
  rw [hnode j]
  by_cases e:j=i
  ·rw [e];exact hu
  ·have:j = !i:=by cases i <;> cases j <;> simp_all
   rw [this]
   cases e2:(nodeC c (!i)).up with
   | true=>rfl
   | false=>exact(c1 (.inr (.inl (by rw [hnode];exact e2)))).elim
 have z0:(setW c i true).n0.state=0:=by have:=(hz.dl hl).1;cases i <;> exact this
 have z1:(setW c i true).n1.state=0:=by have:=(hz.dl hl).2;cases i <;> exact this
 have h2:PC { setW c i true with link:=openL (setW c i true).link }:=pc_want h i true
 have ha:=pc_after (r:=beginN (setW c i true).n0 (openL (setW c i true).link).session) h2 false (pi_begin h2.1 z0)
 have e:(afterC { setW c i true with link:=openL (setW c i true).link } false (beginN (setW c i true).n0 (openL (setW c i true).link).session)).1.n1.state=0:=by
  have:=after_begin (c:={ setW c i true with link:=openL (setW c i true).link }) (i:=false) (s:=(openL (setW c i true).link).session) (hup false)
  rw [show nodeC { setW c i true with link:=openL (setW c i true).link } false=(setW c i true).n0 from rfl] at this
  rw [this,put_n1]
  exact z1
 exact pc_after ha true (pi_begin ha.2 e)
theorem pc_at {B:Int} {c:Cluster} {e:Event} (hz:CI B c) (hid:IdC c) (h:PC c) (i:Bool):PC (doAt c e i).1:=by
 have hn:=h.node i
 unfold doAt
 refine ite_of (P:=fun r:CO=>PC r.1) (fun _=>?_) (fun _=>?_)
 ·exact pc_after h i (pi_promote hn)
 refine ite_of (P:=fun r:CO=>PC r.1) (fun _=>?_) (fun _=>?_)
 ·exact pc_after h i (pi_demote hn)
 refine ite_of (P:=fun r:CO=>PC r.1) (fun _=>?_) (fun _=>?_)
 ·exact pc_after h i (pi_discard hn)
 refine ite_of (P:=fun r:CO=>PC r.1) (fun _=>?_) (fun _=>?_)
 ·exact pc_after h i (pi_read hn)
 refine ite_of (P:=fun r:CO=>PC r.1) (fun _=>?_) (fun _=>?_)
 ·exact pc_after h i (pi_write hn)
 refine ite_of (P:=fun r:CO=>PC r.1) (fun _=>?_) (fun _=>?_)
 ·exact pc_connect hz h i
 refine ite_of (P:=fun r:CO=>PC r.1) (fun _=>?_) (fun _=>?_)
 ·have h1:PC (if e.kind=7 then setW c i false else c):=by
   split
   ·exact pc_want h _ _
   ·exact h
  generalize (if e.kind=7 then setW c i false else c)=c1 at h1 ⊢
  split
  ·exact pc_end h1
  ·exact h1
 refine ite_of (P:=fun r:CO=>PC r.1) (fun _=>?_) (fun _=>?_)
 ·split
  ·exact h
  ·rename_i b r hq
   exact pc_after (c:={ c with link:=setTo c.link i r }) h i (pi_receive hn (hid.two i))
 refine ite_of (P:=fun r:CO=>PC r.1) (fun _=>?_) (fun _=>?_)
 ·split
  ·exact pc_after h i pi_down
  ·exact h
 refine ite_of (P:=fun r:CO=>PC r.1) (fun _=>?_) (fun _=>?_)
 ·exact pc_set h i (pi_attach hn)
 refine ite_of (P:=fun r:CO=>PC r.1) (fun _=>?_) (fun _=>?_)
 ·split
  ·exact pc_after h i (hn.same rfl rfl rfl rfl)
  ·exact pc_after h i hn
 refine ite_of (P:=fun r:CO=>PC r.1) (fun _=>?_) (fun _=>?_)
 ·refine pc_set h i ?_
  split
  ·exact hn.same rfl rfl rfl rfl
  ·exact hn
 refine ite_of (P:=fun r:CO=>PC r.1) (fun _=>?_) (fun _=>?_)
 ·split
  ·exact h
  ·exact pc_after h i (pi_receive hn (hid.two i))
 ·exact h
theorem pc_do {B:Int} {c:Cluster} {e:Event} (hz:CI B c) (hid:IdC c) (h:PC c):PC (doC c e).1:=by
 unfold doC
 split
 ·exact pc_at hz hid h false
 split
 ·exact pc_at hz hid h true
 ·exact h
theorem idc_do {c:Cluster} {e:Event} (h:IdC c):IdC (doC c e).1:=by
 unfold doC
 split
 ·exact idc_at h false
 split
 ·exact idc_at h true
 ·exact h
theorem pc_play {B:Int}:∀ {l:List Event} {N:Nat} {c:Cluster},64≤N->OkC N c->(∀ e∈l,OkE e)->CW B c->CI B c->IdC c->PC c->PC (playC c l)
 | [],_,_,_,_,_,_,_,_,h=>h
 | e :: l,_,_,h64,o,he,w,hz,hid,h=>pc_play (l:=l) (by omega) (okC_do o h64 (he e (by simp))) (fun x hx=>he x (by simp [hx])) (cw_do h64 o (he e (by simp)) w) (ci_do h64 o w hz) (idc_do hid) (pc_do hz hid h)
theorem pc_reach {b:Int} {l:List Event} (he:∀ e∈l,OkE e):PC (reachC b l):=by
 have nr:∀ (i:Int) (d:Disk),PI ⟨i,false,⟨d,zS,0⟩,false,0,0,zeroH,false,zR,false,0,0,false,[],[]⟩:=fun i d=>⟨fun _=>rfl,fun e=>(by cases e),fun e=>by rcases e with e | e <;> cases e⟩
 have hc:PC (newC (1+b % 4) 7).1:=by
  unfold newC
  split
  ·exact⟨nr 0 noD,nr 0 noD⟩
  ·exact⟨pi_attach (nr 0 _),pi_attach (nr 1 _)⟩
 have c0:CI (1+b % 4) (reachC b []):=ci_reach (l:=[]) (fun x h=>by cases h)
 have w0:CW (1+b % 4) (reachC b []):=cw_reach (l:=[]) (fun x h=>by cases h)
 exact pc_play (N:=64) (by omega) okC_new he w0 c0 (idc_reach (l:=[])) hc
end Gm
