/- Sizes: clusters. -/
import Derived.Test.YtlaijgoahmigmaaGreatDoorGdPt
set_option maxRecDepth 100000
namespace Gm
open Go
def Good (o:Outp):Prop:=o.kind=1->o.data.length≤200
def OkO (k:Nat) (l:List Outp):Prop:=l.length≤k∧∀ o∈l,Good o
theorem good_send (n:Node) (p:Packet):Good (sendO n p):=fun _=>encP_len
theorem good_reply (n:Node) (id e:Int) (d:Str):Good (replyO n id e d):=fun h=>absurd (show(2:Int)=1 from h) (by decide)
theorem good_close (n:Node):Good (closeO n):=fun h=>absurd (show(3:Int)=1 from h) (by decide)
theorem okO_nil (k:Nat):OkO k []:=⟨Nat.zero_le _,fun o h=>by cases h⟩
theorem okO_cons {k:Nat} {o:Outp} {l:List Outp} (h:Good o) (hl:OkO k l):OkO (k+1) (o :: l):=
 ⟨Nat.succ_le_succ hl.1,fun x hx=>by
   rcases List.mem_cons.1 hx with rfl | hx
   ·exact h
   ·exact hl.2 x hx⟩
theorem OkO.up {k m:Nat} {l:List Outp} (h:OkO k l) (hm:k≤m):OkO m l:=⟨Nat.le_trans h.1 hm,h.2⟩
theorem okO_app {a b:Nat} {l m:List Outp} (h:OkO a l) (hm:OkO b m):OkO (a+b) (l++m):=
 ⟨by rw [List.length_append];exact Nat.add_le_add h.1 hm.1,fun o ho=>by
   rcases List.mem_append.1 ho with ho | ho
   ·exact h.2 o ho
   ·exact hm.2 o ho⟩
theorem okO_promote (n:Node) (id:Int):OkO 3 (promoteN n id).2:=by
 unfold promoteN refuseN
 repeat' split
 all_goals first
  | exact okO_nil _
  | exact okO_cons (good_reply _ _ _ _) (okO_nil 2)
  | exact okO_cons (good_send _ _) (okO_nil 2)
theorem okO_demote (n:Node) (id:Int):OkO 3 (demoteN n id).2:=by
 unfold demoteN refuseN
 split
 ·exact okO_cons (good_reply _ _ _ _) (okO_nil 2)
 split
 ·exact okO_cons (good_reply _ _ _ _) (okO_nil 2)
 split
 ·exact okO_cons (good_reply _ _ _ _) (okO_nil 2)
 split
 ·dsimp only
  refine okO_app (a:=1) (b:=2) ?_ (okO_cons (good_reply _ _ _ _) (okO_nil 1))
  split
  ·exact okO_cons (good_send _ _) (okO_nil 0)
  ·exact okO_nil 1
 ·exact okO_nil _
theorem okO_discard (n:Node) (id:Int):OkO 3 (discardN n id).2:=by
 unfold discardN refuseN
 repeat' split
 all_goals first
  | exact okO_nil _
  | exact okO_cons (good_reply _ _ _ _) (okO_nil 2)
theorem okO_read (n:Node) (id b:Int):OkO 3 (readN n id b).2:=by
 unfold readN refuseN
 repeat' split
 all_goals exact okO_cons (good_reply _ _ _ _) (okO_nil 2)
theorem okO_write (n:Node) (id b:Int) (data:Str):OkO 3 (writeN n id b data).2:=by
 unfold writeN refuseN
 dsimp only
 repeat' split
 all_goals first
  | exact okO_nil _
  | exact okO_cons (good_reply _ _ _ _) (okO_nil 2)
  | exact okO_cons (good_send _ _) (okO_nil 2)
theorem okO_acked (n:Node) (b:Int):OkO 3 (ackedN n b).2:=by
 unfold ackedN
 dsimp only
 repeat' split
 all_goals first
  | exact okO_nil _
  | exact okO_cons (good_reply _ _ _ _) (okO_cons (good_send _ _) (okO_nil 1))
  | exact okO_cons (good_reply _ _ _ _) (okO_nil 2)
theorem okO_apply (n:Node) (b:Int) (data:Str):OkO 3 (applyN n b data).2:=by
 unfold applyN
 repeat' split
 all_goals first
  | exact okO_nil _
  | exact okO_cons (good_send _ _) (okO_nil 2)
theorem okO_lose (n:Node):OkO 3 (loseN n).2:=by
 have h1:OkO 1 (if n.asking=true then [replyO n n.askId 13 []] else []):=by
  split
  ·exact okO_cons (good_reply _ _ _ _) (okO_nil 0)
  ·exact okO_nil _
 unfold loseN
 dsimp only
 split
 ·exact okO_nil _
 split
 ·exact h1.up (by omega)
 split
 ·exact h1.up (by omega)
 ·exact okO_app h1 (okO_cons (good_reply _ _ _ _) (okO_nil 1))
theorem okO_seek (n:Node):OkO 1 (seekN n).2:=by
 unfold seekN
 dsimp only
 repeat' split
 all_goals first
  | exact okO_nil _
  | exact okO_cons (good_send _ _) (okO_nil 0)
theorem okO_got (n:Node) (b:Int) (data:Str):OkO 3 (gotN n b data).2:=by
 unfold gotN
 dsimp only
 repeat' split
 all_goals first
  | exact okO_nil _
  | exact okO_cons (good_send _ _) ((okO_seek _).up (by omega))
theorem okO_copied (n:Node) (b:Int):OkO 3 (copiedN n b).2:=by
 unfold copiedN
 repeat' split
 all_goals exact okO_nil _
theorem okO_ended (n:Node):OkO 3 (endedN n).2:=by
 unfold endedN
 dsimp only
 repeat' split
 all_goals first
  | exact okO_nil _
  | exact okO_cons (good_send _ _) (okO_nil 2)
theorem okO_met (n:Node) (h:Hello):OkO 3 (metN n h).2:=by
 unfold metN
 dsimp only
 split
 ·exact okO_cons (good_close _) (okO_nil 2)
 split
 ·exact okO_nil _
 split
 ·exact okO_nil _
 split
 ·exact okO_nil _
 split
 ·exact okO_nil _
 ·exact(okO_seek _).up (by omega)
theorem okO_roles (n:Node) (k:Int):OkO 3 (rolesN n k).2:=by
 unfold rolesN
 dsimp only
 repeat' split
 all_goals first
  | exact okO_nil _
  | exact okO_cons (good_send _ _) (okO_nil 2)
  | exact okO_cons (good_reply _ _ _ _) (okO_nil 2)
theorem okO_take (n:Node) (p:Packet):OkO 3 (takeN n p).2:=by
 unfold takeN
 split
 ·exact okO_met _ _
 split
 ·exact okO_apply _ _ _
 split
 ·exact okO_acked _ _
 split
 ·exact okO_nil _
 split
 ·exact okO_cons (good_send _ _) (okO_nil 2)
 split
 ·exact okO_got _ _ _
 split
 ·exact okO_copied _ _
 split
 ·exact okO_ended _
 split
 ·exact okO_nil _
 ·exact okO_roles _ _
theorem okO_receive (n:Node) (b:Str):OkO 3 (receiveN n b).2:=by
 unfold receiveN
 split
 ·exact okO_nil _
 split
 ·exact okO_nil _
 split
 ·exact okO_cons (good_close _) (okO_nil 2)
 ·exact okO_take _ _
structure OkL (N:Nat) (l:Link):Prop where
 s:inK .u64 l.session
 a:l.to0.length≤N
 b:l.to1.length≤N
 p:∀ x∈l.to0,x.length≤200
 q:∀ x∈l.to1,x.length≤200
structure OkC (N:Nat) (c:Cluster):Prop where
 a:OkN N c.n0
 b:OkN N c.n1
 l:OkL N c.link
theorem OkL.up {N M:Nat} {l:Link} (o:OkL N l) (h:N≤M):OkL M l:=⟨o.s,Nat.le_trans o.a h,Nat.le_trans o.b h,o.p,o.q⟩
theorem OkC.up {N M:Nat} {c:Cluster} (o:OkC N c) (h:N≤M):OkC M c:=⟨o.a.up h,o.b.up h,o.l.up h⟩
theorem OkC.node {N:Nat} {c:Cluster} (o:OkC N c) (i:Bool):OkN N (nodeC c i):=by cases i;exact o.a;exact o.b
theorem okC_set {N M:Nat} {c:Cluster} {n:Node} (o:OkC N c) (h:N≤M) (hn:OkN M n) (i:Bool):OkC M (setN c i n):=by
 cases i
 ·exact⟨hn,o.b.up h,o.l.up h⟩
 ·exact⟨o.a.up h,hn,o.l.up h⟩
theorem okC_want {N:Nat} {c:Cluster} (o:OkC N c) (i w:Bool):OkC N (setW c i w):=by
 cases i
 ·exact⟨o.a,o.b,o.l⟩
 ·exact⟨o.a,o.b,o.l⟩
theorem okC_lose {N:Nat} {c:CO} (o:OkC N c.1) (h64:64≤N) (i:Bool):OkC (N+4) (loseC c i).1:=by
 unfold loseC
 split
 ·exact o.up (by omega)
 dsimp only
 have o1:=okC_set o (by omega:N≤N+4) (okN_lose (o.node i) h64) i
 split
 ·exact okC_want o1 _ _
 ·exact o1
theorem okC_end {N:Nat} {c:Cluster} {out:List Outp} (o:OkC N c) (h64:64≤N):OkC (N+8) (endC c out).1:=by
 have o1:OkC N { c with link:=closeL c.link }:=⟨o.a,o.b,⟨o.l.s,Nat.zero_le _,Nat.zero_le _,fun x h=>(by cases h),fun x h=>(by cases h)⟩⟩
 exact okC_lose (c:=loseC ({ c with link:=closeL c.link },out) false) (okC_lose (c:=({ c with link:=closeL c.link },out)) o1 h64 false) (by omega) true
theorem okL_to {N:Nat} {l:Link} (o:OkL N l) (i:Bool) {q:List Str} (h1:q.length≤N) (h2:∀ x∈q,x.length≤200):OkL N (setTo l i q):=by
 cases i
 ·exact⟨o.s,h1,o.b,h2,o.q⟩
 ·exact⟨o.s,o.a,h1,o.p,h2⟩
theorem OkL.to {N:Nat} {l:Link} (o:OkL N l) (i:Bool):(toC l i).length≤N∧∀ x∈toC l i,x.length≤200:=by
 cases i
 ·exact⟨o.a,o.p⟩
 ·exact⟨o.b,o.q⟩
theorem okC_put {N:Nat} {c:Cluster} {l:List Outp} (o:OkC N c) (i:Bool) (hl:OkO 3 l):OkC (N+3) (putC c i l):=by
 unfold putC
 split
 ·refine⟨o.a.up (by omega),o.b.up (by omega),okL_to (o.l.up (by omega)) _ ?_ ?_⟩
  ·have h1:=(o.l.to (!i)).1
   have h2:=List.length_filter_le (fun o:Outp=>o.kind==1) l
   have h3:=hl.1
   rw [List.length_append,List.length_map]
   omega
  ·intro x hx
   rcases List.mem_append.1 hx with hx | hx
   ·exact(o.l.to (!i)).2 x hx
   ·obtain ⟨p,hp,rfl⟩:=List.mem_map.1 hx
    obtain ⟨h1,h2⟩:=List.mem_filter.1 hp
    exact hl.2 p h1 (by simpa using h2)
 ·exact o.up (by omega)
theorem okC_after {N:Nat} {c:Cluster} {r:NO} (o:OkC N c) (h64:64≤N) (i:Bool) (hn:OkN (N+4) r.1) (hl:OkO 3 r.2):OkC (N+15) (afterC c i r).1:=by
 have o1:=okC_put (okC_set o (by omega:N≤N+4) hn i) i hl
 unfold afterC
 dsimp only
 have o2:OkC (N+7) (if r.1.up=false then setW (putC (setN c i r.1) i r.2) i false else putC (setN c i r.1) i r.2):=by
  split
  ·exact okC_want o1 _ _
  ·exact o1
 generalize (if r.1.up=false then setW (putC (setN c i r.1) i r.2) i false else putC (setN c i r.1) i r.2)=c2 at o2 ⊢
 split
 ·exact o2.up (by omega)
 ·refine okC_end (N:=N+7) ?_ (by omega)
  split
  ·exact⟨o2.a,o2.b,o2.l⟩
  ·exact o2
theorem okC_open {N:Nat} {c:Cluster} (o:OkC N c):OkC N { c with link:=openL c.link }:=
 ⟨o.a,o.b,⟨⟨by show(0:Int)≤IntKind.u64.wrap _;rw [wrap_u64];omega,by show IntKind.u64.wrap _≤(18446744073709551615:Int);rw [wrap_u64];omega⟩,Nat.zero_le _,Nat.zero_le _,fun x h=>(by cases h),fun x h=>(by cases h)⟩⟩
theorem okO_begin (n:Node) (s:Int):OkO 3 (beginN n s).2:=okO_cons (good_send _ _) (okO_nil 2)
theorem okC_connect {N:Nat} {c:Cluster} (o:OkC N c) (h64:64≤N) (i:Bool):OkC (N+30) (connectC c i).1:=by
 unfold connectC
 split
 ·exact o.up (by omega)
 dsimp only
 split
 ·exact(okC_want o _ _).up (by omega)
 have o2:=okC_open (okC_want o i true)
 have oa:=okC_after (r:=beginN (setW c i true).n0 (openL (setW c i true).link).session) o2 h64 false ((okN_begin o2.a o2.l.s).up (by omega)) (okO_begin _ _)
 exact okC_after oa (by omega) true ((okN_begin oa.b oa.l.s).up (by omega)) (okO_begin _ _)
structure OkE (e:Event):Prop where
 n:inK .u64 e.num
 d:e.data.length≤300
 k:e.keeps.length≤100
theorem okN_arm {N:Nat} {n:Node} {k:Int} (o:OkN N n) (h0:0≤k) (h1:k≤1000):OkN N (setSt n ⟨armV n.store.disk k,n.store.sup,n.store.mask⟩):=by
 refine okN_set o (Nat.le_refl _) ⟨⟨o.st.d.s,o.st.d.c,o.st.d.r,?_,?_,o.st.d.ds,o.st.d.dc⟩,o.st.b,o.st.v,o.st.m⟩
 ·show inK .i64 (maxI2 k 0)
  unfold maxI2
  split
  ·exact i64_0
  ·exact⟨by show(-9223372036854775808:Int)≤_;omega,by show _≤(9223372036854775807:Int);omega⟩
 ·show 0≤maxI2 k 0
  unfold maxI2
  split <;> omega
theorem unbe_w (t:Str) (i:Nat) (h:i+8≤t.length):inK .u64 (numAt t i):=by
 have:=unbe_lt 8 (sub t i (i+8)) (by rw [sub_len h];omega)
 have:unbe (sub t i (i+8)) < 18446744073709551616:=by simpa using this
 exact⟨by show(0:Int)≤((unbe _:Nat):Int);omega,by show((unbe _:Nat):Int)≤(18446744073709551615:Int);omega⟩
theorem decS6_w (b:Str):wSup (decS6 b).1:=by
 unfold decS6
 split
 ·exact⟨i64_0,wZV⟩
 split
 ·rename_i h
  have hl:=h.1
  have h3:=u8_lt ((openV b).1.getD 3 0)
  refine⟨⟨by show(-9223372036854775808:Int)≤((_:Nat):Int);omega,by show((_:Nat):Int)≤(9223372036854775807:Int);omega⟩,unbe_w _ _ (by omega),unbe_w _ _ (by omega),unbe_w _ _ (by omega),unbe_w _ _ (by omega)⟩
 ·exact⟨i64_0,wZV⟩
theorem loadS_w (d:Disk):wSup (loadS d).1:=by
 unfold loadS
 repeat' split
 all_goals first
  | exact⟨i64_0,wZV⟩
  | exact decS6_w _
theorem loadV_w (d:Disk):inK .u32 (loadV d).1:=by
 unfold loadV
 repeat' split
 all_goals first
  | exact inK_u32 (by decide)
  | skip
 all_goals
  rename_i h
  have h1:=unbe_lt 4 (openV (readV d 1).1).1 h.1
  exact inK_u32 (by simpa using h1)
theorem okS_zero (N:Nat):OkS N zSt:=
 ⟨⟨Nat.zero_le _,Nat.zero_le _,fun w h=>(by cases h),i64_0,by show(0:Int)≤0;omega,fun s h=>(by cases h),fun w h=>(by cases h)⟩,i64_0,wZV,inK_u32 (by decide)⟩
theorem okS_attach {N:Nat} {d:Disk} (o:OkD N d):OkS N (stAttach d).1:=by
 unfold stAttach
 repeat' split
 all_goals first
  | exact okS_zero N
  | exact⟨o,(loadS_w d).1,(loadS_w d).2,loadV_w d⟩
theorem okN_attach {N:Nat} {n:Node} {keeps:List Bool} (o:OkN N n):OkN N (attachN n keeps).1:=by
 have od:=revive_ok o.st.d keeps
 unfold attachN
 split
 ·exact o
 split
 ·exact okN_set o (Nat.le_refl _) ⟨od,o.st.b,o.st.v,o.st.m⟩
 ·exact okN_bare o (okS_attach od)
theorem ite_of {α:Type} {c:Prop} [Decidable c] {a b:α} {P:α->Prop} (h1:c->P a) (h2:¬ c->P b):P (if c then a else b):=by
 by_cases h:c
 ·rw [if_pos h];exact h1 h
 ·rw [if_neg h];exact h2 h
theorem okC_at {N:Nat} {c:Cluster} {e:Event} (o:OkC N c) (h64:64≤N) (oe:OkE e) (i:Bool):OkC (N+30) (doAt c e i).1:=by
 have on:=o.node i
 unfold doAt
 refine ite_of (P:=fun r:CO=>OkC (N+30) r.1) (fun _=>?_) (fun _=>?_)
 ·exact(okC_after o h64 i (okN_promote on h64) (okO_promote _ _)).up (by omega)
 refine ite_of (P:=fun r:CO=>OkC (N+30) r.1) (fun _=>?_) (fun _=>?_)
 ·exact(okC_after o h64 i (okN_demote on h64) (okO_demote _ _)).up (by omega)
 refine ite_of (P:=fun r:CO=>OkC (N+30) r.1) (fun _=>?_) (fun _=>?_)
 ·exact(okC_after o h64 i (okN_discard on h64) (okO_discard _ _)).up (by omega)
 refine ite_of (P:=fun r:CO=>OkC (N+30) r.1) (fun _=>?_) (fun _=>?_)
 ·exact(okC_after o h64 i (okN_read on) (okO_read _ _ _)).up (by omega)
 refine ite_of (P:=fun r:CO=>OkC (N+30) r.1) (fun _=>?_) (fun _=>?_)
 ·exact(okC_after o h64 i (okN_write on h64) (okO_write _ _ _ _)).up (by omega)
 refine ite_of (P:=fun r:CO=>OkC (N+30) r.1) (fun _=>?_) (fun _=>?_)
 ·exact okC_connect o h64 i
 refine ite_of (P:=fun r:CO=>OkC (N+30) r.1) (fun _=>?_) (fun _=>?_)
 ·have o1:OkC N (if e.kind=7 then setW c i false else c):=by
   split
   ·exact okC_want o _ _
   ·exact o
  generalize (if e.kind=7 then setW c i false else c)=c1 at o1 ⊢
  split
  ·exact(okC_end o1 h64).up (by omega)
  ·exact o1.up (by omega)
 refine ite_of (P:=fun r:CO=>OkC (N+30) r.1) (fun _=>?_) (fun _=>?_)
 ·split
  ·exact o.up (by omega)
  ·rename_i b r hq
   have hto:=o.l.to i
   rw [hq] at hto
   have o1:OkC N { c with link:=setTo c.link i r }:=⟨o.a,o.b,okL_to o.l i (by have:=hto.1;simp at this;omega) (fun x hx=>hto.2 x (List.mem_cons_of_mem _ hx))⟩
   exact(okC_after o1 h64 i (okN_receive on h64) (okO_receive _ _)).up (by omega)
 refine ite_of (P:=fun r:CO=>OkC (N+30) r.1) (fun _=>?_) (fun _=>?_)
 ·split
  ·exact(okC_after o h64 i ((okN_down on).up (by omega)) (okO_nil 3)).up (by omega)
  ·exact o.up (by omega)
 refine ite_of (P:=fun r:CO=>OkC (N+30) r.1) (fun _=>?_) (fun _=>?_)
 ·exact(okC_set o (Nat.le_refl N) (okN_attach on) i).up (by omega)
 refine ite_of (P:=fun r:CO=>OkC (N+30) r.1) (fun _=>?_) (fun _=>?_)
 ·refine(okC_after o h64 i (OkN.up (N:=N) ?_ (by omega)) (okO_nil 3)).up (by omega)
  dsimp only
  have h1:0≤e.num:=oe.n.1
  split
  ·exact okN_arm on (by omega) (by omega)
  ·exact on
 refine ite_of (P:=fun r:CO=>OkC (N+30) r.1) (fun _=>?_) (fun _=>?_)
 ·refine(okC_set o (by omega:N≤N+1) ?_ i).up (by omega)
  split
  ·refine⟨on.st.up (by omega),on.se,on.pe,on.rq,?_,?_,Nat.le_trans on.ml (by omega),on.wa⟩
   ·show(_++[e.num]).length≤N+1
    have:=on.dl
    simp;omega
   ·intro g hg
    rcases List.mem_append.1 hg with h | h
    ·exact on.dg g h
    ·simp at h;subst h;exact oe.n
  ·exact on.up (by omega)
 refine ite_of (P:=fun r:CO=>OkC (N+30) r.1) (fun _=>?_) (fun _=>?_)
 ·split
  ·exact o.up (by omega)
  ·exact(okC_after o h64 i (okN_receive on h64) (okO_receive _ _)).up (by omega)
 ·exact o.up (by omega)
theorem okC_do {N:Nat} {c:Cluster} {e:Event} (o:OkC N c) (h64:64≤N) (oe:OkE e):OkC (N+30) (doC c e).1:=by
 unfold doC
 split
 ·exact okC_at o h64 oe false
 split
 ·exact okC_at o h64 oe true
 ·exact o.up (by omega)
theorem okC_play:∀ {l:List Event} {N:Nat} {c:Cluster},OkC N c->64≤N->(∀ e∈l,OkE e)->OkC (N+30 * l.length) (playC c l)
 | [],N,c,o,_,_=>o
 | e :: l,N,c,o,h64,he=>by
  have:=okC_play (l:=l) (okC_do o h64 (he e (by simp))) (by omega) (fun x hx=>he x (by simp [hx]))
  exact this.up (by simp;omega)
end Gm

set_option maxRecDepth 100000
namespace Gm
open Go
theorem use_eq {α:Type} {K:α->Prop} {a b:α} (h:K a) (e:a=b):K b:=e ▸ h
theorem round1 {α β:Type} {B:(α->Prop)->(α->Prop)->(β->Prop)->α->Prop} {n:Nat} {kx:α->Prop} {kr:β->Prop} {x:α}
  (h:B (loopB B n kx kr) kx kr x):loopB B (n+1) kx kr x:=h
theorem or_new {m i:Nat} (h:m.testBit i=false):m ||| 2 ^ i=m+2 ^ i:=by
 have hp:0 < 2 ^ i:=Nat.two_pow_pos i
 have hb:m / 2 ^ i % 2=0:=by
  rw [Nat.testBit_eq_decide_div_mod_eq] at h
  have:=of_decide_eq_false h
  omega
 have hr:m % 2 ^ (i+1) < 2 ^ i:=by
  rw [Nat.pow_succ,Nat.mod_mul,hb]
  have:=Nat.mod_lt m hp
  omega
 have e:=Nat.div_add_mod m (2 ^ (i+1))
 generalize hq:m / 2 ^ (i+1)=q at e
 generalize hm:m % 2 ^ (i+1)=r at e hr
 have e1:2 ^ (i+1) * q+r=2 ^ (i+1) * q ||| r:=Nat.two_pow_add_eq_or_of_lt (by rw [Nat.pow_succ];omega) q
 have e2:2 ^ i * 1+r=2 ^ i * 1 ||| r:=Nat.two_pow_add_eq_or_of_lt hr 1
 have e3:2 ^ (i+1) * q+(2 ^ i+r)=2 ^ (i+1) * q ||| (2 ^ i+r):=Nat.two_pow_add_eq_or_of_lt (by rw [Nat.pow_succ];omega) q
 rw [Nat.mul_one] at e2
 rw [← e,e1,Nat.or_assoc,Nat.or_comm r,← e2,← e3,← e1]
 omega
theorem or_old {m i:Nat} (h:m.testBit i=true):m ||| 2 ^ i=m:=by
 apply Nat.eq_of_testBit_eq
 intro j
 rw [Nat.testBit_or,Nat.testBit_two_pow]
 by_cases e:i=j
 ·subst e;rw [h];simp
 ·simp [e]
theorem sub_bit {m i:Nat} (h:m.testBit i=true):2 ^ i≤m∧(m - 2 ^ i).testBit i=false∧m=(m - 2 ^ i) ||| 2 ^ i:=by
 have h1:=Nat.ge_two_pow_of_testBit h
 have h2:(m - 2 ^ i).testBit i=false:=by
  rw [Nat.testBit_eq_decide_div_mod_eq] at h ⊢
  have h:=of_decide_eq_true h
  have hp:0 < 2 ^ i:=Nat.two_pow_pos i
  have:(m - 2 ^ i) / 2 ^ i=m / 2 ^ i - 1:=by
   have:=Nat.sub_mul_div m (2 ^ i) 1
   rw [Nat.mul_one] at this
   exact this
  rw [this]
  exact decide_eq_false (by omega)
 exact⟨h1,h2,by rw [or_new h2];omega⟩
theorem has_ok {m i:Int} (hm:inK .u32 m) {K:Bool->Prop} (h:K (hasM m i)):q37.F m i K:=by
 obtain ⟨h1,h2⟩:=u32_toNat hm
 by_cases hi:0≤i∧i < 32
 ·have e:((i.toNat:Nat):Int)=i:=by omega
  have e2:hasM m i=m.toNat.testBit i.toNat:=by unfold hasM;simp [hi]
  rw [e2] at h
  have:=ref03_Has_ok (m:=m.toNat) (i:=i.toNat) (by simpa using h1) (by omega) h
  rw [h2,e] at this
  exact this
 ·have e2:hasM m i=false:=by unfold hasM;simp [hi]
  rw [e2] at h
  unfold q37.F q37.FV
  refine cond_ok (fun h3=>cond_ok (fun h4=>?_) (fun _=>h)) (fun _=>h)
  have h3:i≥0:=of_decide_eq_true h3
  have h4:i < 32:=of_decide_eq_true h4
  exact absurd ⟨h3,h4⟩ hi
def setL (m:Int) (l:List Int):Int:=l.foldl setM m
theorem setL_u32:∀ (l:List Int) (m:Int),inK .u32 m->inK .u32 (setL m l)
 | [],_,h=>h
 | i :: l,m,h=>setL_u32 l (setM m i) (set_u32 h)
theorem set_new {m i:Int} (hm:inK .u32 m) (hi:0≤i∧i < 32) (h:hasM m i=false):IntKind.u32.wrap (m+((2 ^ i.toNat:Nat):Int))=setM m i:=by
 obtain ⟨h1,h2⟩:=u32_toNat hm
 have hb:m.toNat.testBit i.toNat=false:=by unfold hasM at h;simpa [hi] using h
 have e:setM m i=((m.toNat+2 ^ i.toNat:Nat):Int):=by unfold setM;rw [if_pos hi,or_new hb]
 have hs:=set_u32 (i:=i) hm
 rw [e] at hs ⊢
 have hs:(0:Int)≤((m.toNat+2 ^ i.toNat:Nat):Int)∧((m.toNat+2 ^ i.toNat:Nat):Int)≤4294967295:=hs
 rw [show m+((2 ^ i.toNat:Nat):Int)=((m.toNat+2 ^ i.toNat:Nat):Int) by omega,wrap_u32]
 omega
theorem set_old {m i:Int} (hm:inK .u32 m) (hi:0≤i∧i < 32) (h:hasM m i=true):m=setM m i:=by
 obtain ⟨h1,h2⟩:=u32_toNat hm
 have hb:m.toNat.testBit i.toNat=true:=by unfold hasM at h;simpa [hi] using h
 unfold setM
 rw [if_pos hi,or_old hb]
 exact h2.symm
theorem ref03_Set_ok {m:Int} {l:List Int} (hl:l.length≤1000) (hm:inK .u32 m) {K:Int->Prop} (h:K (setL m l)):q72.F m l K:=by
 unfold q72.F q72.FV
 refine loop_ok (I:=fun x:q72.L0=>∃ k:Nat,k≤l.length∧x=⟨setL m (l.take k),l,k⟩) (m:=fun x:q72.L0=>l.length - x.k.toNat) ?_ ⟨0,by omega,rfl⟩
 rintro _ ⟨k,hk,rfl⟩ rec hrec
 unfold q72.b0V
 dsimp only
 refine cond_ok (fun h1=>?_) (fun h1=>?_)
 ·have hlt:=lt_of_dec h1
  have hu:=setL_u32 (l.take k) m hm
  have hstep:setL m (l.take (k+1))=setM (setL m (l.take k)) l[k]:=by
   unfold setL
   rw [take_succ hlt,List.foldl_append]
   rfl
  have next:∀ v,v=setL m (l.take (k+1))->rec ⟨v,l,IntKind.i64.wrap ((k:Int)+1)⟩:=by
   intro v hv
   rw [wrap_lt hlt (by unfold big;omega)]
   exact hrec _ ⟨k+1,hlt,by rw [hv]⟩ (by show l.length - ((k+1:Nat):Int).toNat < l.length - ((k:Nat):Int).toNat;omega)
  refine oget_ok (getI_ok hlt) (cond_ok (fun h2=>?_) (fun h2=>?_))
  ·have h2:l[k]≥0:=of_decide_eq_true h2
   refine oget_ok (getI_ok hlt) (cond_ok (fun h3=>?_) (fun h3=>?_))
   ·have h3:l[k] < 32:=of_decide_eq_true h3
    refine oget_ok (getI_ok hlt) (has_ok hu (cond_ok (fun h4=>?_) (fun h4=>?_)))
    ·refine oget_ok (getI_ok hlt) ?_
     have e:((l[k].toNat:Nat):Int)=l[k]:=by omega
     have key:∀ v:Int,v=l[k]->q36.F v fun r6=>rec ⟨IntKind.u32.wrap (setL m (l.take k)+r6),l,IntKind.i64.wrap ((k:Int)+1)⟩:=by
      intro v hv
      rw [hv,← e]
      refine ref03_pow_ok (by omega) (next _ ?_)
      rw [hstep]
      have:=set_new hu ⟨h2,h3⟩ (not_t h4)
      simpa using this
     exact key _ rfl
    ·exact next _ (by rw [hstep];exact set_old hu ⟨h2,h3⟩ (not_f h4))
   ·refine next _ ?_
    rw [hstep]
    have h3:¬ l[k] < 32:=of_decide_eq_false h3
    unfold setM
    rw [if_neg (by omega)]
  ·refine next _ ?_
   rw [hstep]
   have h2:¬ l[k]≥0:=of_decide_eq_false h2
   unfold setM
   rw [if_neg (by omega)]
 ·have e:=le_of_dec h1 hk
  subst e
  rw [List.take_length]
  exact h
theorem ref03_Clear_ok {m i:Int} (hm:inK .u32 m) {K:Int->Prop} (h:K (clrM m i)):q112.F m [i] K:=by
 unfold q112.F q112.FV
 have step:∀ (n:Nat) (v:Int),v=clrM m i->loopB (q112.b0V q37.F q36.F) (n+1) (fun x5:q112.L0=>K x5.m) (fun _=>False) ⟨v,[i],IntKind.i64.wrap ((0:Int)+1)⟩:=by
  intro n v hv
  refine round1 ?_
  unfold q112.b0V
  refine cond_f (by rfl) ?_
  rw [hv];exact h
 refine⟨2,round1 ?_⟩
 unfold q112.b0V
 refine cond_t (by rfl) (oget_ok (v:=i) rfl (has_ok hm (cond_ok (fun h1=>?_) (fun h1=>?_))))
 ·refine oget_ok (v:=i) rfl ?_
  have h1':=h1
  unfold hasM at h1'
  rw [Bool.and_eq_true] at h1'
  have hi:=of_decide_eq_true h1'.1
  have e:((i.toNat:Nat):Int)=i:=by omega
  have key:∀ v:Int,v=i->q36.F v fun r4=>loopB (q112.b0V q37.F q36.F) 1 (fun x5:q112.L0=>K x5.m) (fun _=>False) ⟨IntKind.u32.wrap (m - r4),[i],IntKind.i64.wrap ((0:Int)+1)⟩:=by
   intro v hv
   rw [hv,← e]
   refine ref03_pow_ok (by omega) (step 0 _ ?_)
   have hc:=clr_u32 (i:=i) hm
   have e2:clrM m i=m - ((2 ^ i.toNat:Nat):Int):=by unfold clrM;rw [if_pos h1]
   rw [e2] at hc ⊢
   have hc:(0:Int)≤m - ((2 ^ i.toNat:Nat):Int)∧m - ((2 ^ i.toNat:Nat):Int)≤4294967295:=hc
   rw [wrap_u32]
   omega
  exact key _ rfl
 ·refine step 0 _ ?_
  unfold clrM
  rw [if_neg (by rw [h1];simp)]
def bitsI (m:Int) (k:Nat):List Int:=((List.range k).filter fun (i:Nat)=>m.toNat.testBit i).map fun (i:Nat)=>(i:Int)
theorem bitsI_len (m:Int) (k:Nat):(bitsI m k).length≤k:=by
 unfold bitsI
 rw [List.length_map]
 have:=List.length_filter_le (fun i=>m.toNat.testBit i) (List.range k)
 simpa using this
theorem has_nat {m:Int} {k:Nat} (hk:k < 32):hasM m (k:Int)=m.toNat.testBit k:=by unfold hasM;simp;omega
theorem ref03_List_ok {m:Int} (hm:inK .u32 m) {K:List Int->Prop} (h:K (bitsI m 32)):q100.F m K:=by
 unfold q100.F q100.FV
 refine loop_ok (I:=fun x:q100.L0=>∃ k:Nat,k≤32∧x=⟨m,bitsI m k,k⟩) (m:=fun x:q100.L0=>32 - x.i.toNat) ?_ ⟨0,by omega,rfl⟩
 rintro _ ⟨k,hk,rfl⟩ rec hrec
 unfold q100.b0V
 dsimp only
 refine cond_ok (fun h1=>?_) (fun h1=>?_)
 ·have hlt:(k:Int) < 32:=of_decide_eq_true h1
  have hw:IntKind.i64.wrap ((k:Int)+1)=((k+1:Nat):Int):=wrap_lt (m:=32) (by omega) (by unfold big;omega)
  have hs:bitsI m (k+1)=if m.toNat.testBit k=true then bitsI m k++[(k:Int)] else bitsI m k:=by
   unfold bitsI
   rw [List.range_succ,List.filter_append,List.map_append]
   by_cases hb:m.toNat.testBit k=true
   ·rw [if_pos hb];simp [hb]
   ·rw [if_neg hb];simp [hb]
  have hl:=bitsI_len m k
  refine has_ok hm ?_
  rw [has_nat (by omega)]
  refine cond_ok (fun h2=>?_) (fun h2=>?_)
  ·refine gd_ok (fit_ok (by simp;omega)) ?_
   rw [hw]
   refine hrec _ ⟨k+1,by omega,?_⟩ (by show 32 - ((k+1:Nat):Int).toNat < 32 - ((k:Nat):Int).toNat;omega)
   rw [hs,if_pos h2]
  ·rw [hw]
   refine hrec _ ⟨k+1,by omega,?_⟩ (by show 32 - ((k+1:Nat):Int).toNat < 32 - ((k:Nat):Int).toNat;omega)
   rw [hs,if_neg (by rw [h2];simp)]
 ·have hlt:¬ (k:Int) < 32:=of_decide_eq_false h1
  have:k=32:=by omega
  subst this
  exact h
theorem setL_bit (l:List Nat):∀ (m:Int),inK .u32 m->(∀ i∈l,i < 32)->∀ j,(setL m (l.map fun (i:Nat)=>(i:Int))).toNat.testBit j=(m.toNat.testBit j||decide (j∈l)):=by
 induction l with
 | nil=>intro m _ _ j;simp [setL]
 | cons i l ih=>
  intro m hm hl j
  have hi:=hl i (by simp)
  have e:setM m (i:Int)=((m.toNat ||| 2 ^ i:Nat):Int):=by unfold setM;rw [if_pos (by omega)];simp
  show(setL (setM m (i:Int)) (l.map fun (i:Nat)=>(i:Int))).toNat.testBit j=_
  rw [ih _ (set_u32 hm) (fun x hx=>hl x (by simp [hx])),e]
  simp only [Int.toNat_natCast,Nat.testBit_or,Nat.testBit_two_pow,List.mem_cons]
  by_cases h1:i=j
  ·subst h1;simp
  ·have:¬ j=i:=fun x=>h1 x.symm
   simp [h1,this]
theorem bits_of {m:Int} (hm:inK .u32 m) (j:Nat):decide (j∈(List.range 32).filter fun i=>m.toNat.testBit i)=m.toNat.testBit j:=by
 have hj:m.toNat.testBit j=true->j < 32:=by
  intro h
  refine Nat.lt_of_not_le fun hge=>?_
  have h1:=Nat.ge_two_pow_of_testBit h
  have h2:=(u32_toNat hm).1
  have:2 ^ 32≤2 ^ j:=Nat.pow_le_pow_right (by decide) hge
  omega
 rw [Bool.eq_iff_iff,decide_eq_true_eq,List.mem_filter,List.mem_range]
 exact⟨fun h=>h.2,fun h=>⟨hj h,h⟩⟩
theorem setL_or {a b:Int} (ha:inK .u32 a) (hb:inK .u32 b):setL a (bitsI b 32)=orM a b:=by
 have hu:=setL_u32 (bitsI b 32) a ha
 have e:(setL a (bitsI b 32)).toNat=a.toNat ||| b.toNat:=by
  apply Nat.eq_of_testBit_eq
  intro j
  unfold bitsI
  rw [setL_bit _ a ha (fun i hi=>List.mem_range.1 (List.mem_filter.1 hi).1),bits_of hb,Nat.testBit_or]
 unfold orM
 rw [← e]
 exact(u32_toNat hu).2.symm
theorem u32_zero:inK .u32 0:=inK_u32 (n:=0) (by decide)
theorem or_zero {b:Int} (hb:inK .u32 b):orM 0 b=b:=by
 unfold orM
 rw [show (0:Int).toNat=0 from rfl,Nat.zero_or]
 exact(u32_toNat hb).2
theorem ref03_Union_ok {a b:Int} (ha:inK .u32 a) (hb:inK .u32 b) {K:Int->Prop} (h:K (orM a b)):q101.F [a,b] K:=by
 unfold q101.F q101.FV
 refine⟨3,round1 ?_⟩
 unfold q101.b0V
 have l1:=bitsI_len a 32
 have l2:=bitsI_len b 32
 refine cond_t (by rfl) (oget_ok (v:=a) rfl (ref03_List_ok ha (ref03_Set_ok (by omega) u32_zero (round1 ?_))))
 rw [setL_or u32_zero ha,or_zero ha]
 refine cond_t (by rfl) (oget_ok (v:=b) rfl (ref03_List_ok hb (ref03_Set_ok (by omega) ha (round1 ?_))))
 rw [setL_or ha hb]
 exact cond_f (by rfl) h
theorem ref03_All_ok {b:Int} {K:Int->Prop} (h:K (allM b)):q102.F b K:=by
 unfold q102.F q102.FV
 unfold allM at h
 refine cond_ok (fun h1=>?_) (fun h1=>cond_ok (fun h2=>?_) (fun h2=>?_))
 ·have h1:b < 1:=of_decide_eq_true h1
  rw [if_neg (by omega)] at h;exact h
 ·have h2:b > 32:=of_decide_eq_true h2
  rw [if_neg (by omega)] at h;exact h
 have h1:¬ b < 1:=of_decide_eq_false h1
 have h2:¬ b > 32:=of_decide_eq_false h2
 rw [if_pos (by omega)] at h
 obtain ⟨b,rfl⟩:∃ n:Nat,b=n:=⟨b.toNat,by omega⟩
 rw [Int.toNat_natCast] at h
 refine loop_ok (I:=fun x:q102.L0=>∃ k:Nat,k≤b∧x=⟨b,((2 ^ k - 1:Nat):Int),k⟩) (m:=fun x:q102.L0=>b - x.i.toNat) ?_ ⟨0,by omega,rfl⟩
 rintro _ ⟨k,hk,rfl⟩ rec hrec
 unfold q102.b0V
 dsimp only
 refine cond_ok (fun h3=>?_) (fun h3=>?_)
 ·have hlt:=lt_of_dec h3
  refine ref03_pow_ok (by omega) ?_
  rw [wrap_lt hlt (by unfold big;omega)]
  refine hrec _ ⟨k+1,hlt,?_⟩ (by show b - ((k+1:Nat):Int).toNat < b - ((k:Nat):Int).toNat;omega)
  have hp:2 ^ k≤2 ^ 31:=Nat.pow_le_pow_right (by decide) (by omega)
  have hp:2 ^ k≤2147483648:=by simpa using hp
  have h0:0 < 2 ^ k:=Nat.two_pow_pos k
  congr 1
  rw [Nat.pow_succ]
  generalize 2 ^ k=p at hp h0 ⊢
  rw [wrap_u32]
  omega
 ·have e:=le_of_dec h3 hk
  subst e
  exact h
theorem range_split:∀ i:Fin 32,List.range 32=List.range i++i.1 :: List.range' (i.1+1) (31 - i.1):=by decide
theorem next_at {m:Int} {i:Nat} (hi:i < 32) (hb:m.toNat.testBit i=true) (hn:∀ j,j < i->m.toNat.testBit j=false):nextM m=((i:Int),true):=by
 unfold nextM bitsM
 rw [range_split ⟨i,hi⟩,List.filter_append]
 have:(List.range i).filter (fun i=>m.toNat.testBit i)=[]:=by
  rw [List.filter_eq_nil_iff]
  intro j hj
  rw [hn j (List.mem_range.1 hj)]
  simp
 show(match (List.range i).filter (fun i=>m.toNat.testBit i)++(i :: List.range' (i+1) (31 - i)).filter (fun i=>m.toNat.testBit i) with | i :: _=>((i:Int),true) | []=>(0,false))=_
 rw [this,List.nil_append,List.filter_cons_of_pos (by exact hb)]
theorem next_none {m:Int} (hn:∀ j,j < 32->m.toNat.testBit j=false):nextM m=(0,false):=by
 unfold nextM bitsM
 have:(List.range 32).filter (fun i=>m.toNat.testBit i)=[]:=by
  rw [List.filter_eq_nil_iff]
  intro j hj
  rw [hn j (List.mem_range.1 hj)]
  simp
 rw [this]
theorem ref03_Next_ok {m:Int} (hm:inK .u32 m) {K:(Int×Bool)->Prop} (h:K (nextM m)):q108.F m 0 K:=by
 unfold q108.F q108.FV
 refine loop_ok (I:=fun x:q108.L0=>∃ k:Nat,k≤32∧(∀ j,j < k->m.toNat.testBit j=false)∧x=⟨m,0,k⟩) (m:=fun x:q108.L0=>32 - x.i.toNat) ?_ ⟨0,by omega,fun j hj=>by omega,rfl⟩
 rintro _ ⟨k,hk,hn,rfl⟩ rec hrec
 unfold q108.b0V
 dsimp only
 refine cond_ok (fun h1=>?_) (fun h1=>?_)
 ·have hlt:(k:Int) < 32:=of_decide_eq_true h1
  refine cond_t (decide_eq_true (by omega)) (has_ok hm ?_)
  rw [has_nat (by omega)]
  refine cond_ok (fun h2=>?_) (fun h2=>?_)
  ·rw [next_at (by omega) h2 hn] at h
   exact h
  ·rw [wrap_lt (m:=32) (by omega) (by unfold big;omega)]
   refine hrec _ ⟨k+1,by omega,?_,rfl⟩ (by show 32 - ((k+1:Nat):Int).toNat < 32 - ((k:Nat):Int).toNat;omega)
   intro j hj
   by_cases e:j=k
   ·subst e;exact h2
   ·exact hn j (by omega)
 ·have hlt:¬ (k:Int) < 32:=of_decide_eq_false h1
  have:k=32:=by omega
  subst this
  rw [next_none hn] at h
  exact h
end Gm

set_option maxRecDepth 100000
namespace Gm
open Go
theorem u64_nat {g:Int} (h:inK .u64 g):((g.toNat:Nat):Int)=g∧g.toNat < 2 ^ 64:=by
 have h:0≤g∧g≤18446744073709551615:=h
 constructor
 ·omega
 ·show g.toNat < 18446744073709551616;omega
theorem ref01_put64 {g:Int} (h:inK .u64 g) {K:Str->Prop} (k:K (be g.toNat 8)):q16.F g K:=by
 have:=ref01_Put64_ok (u64_nat h).2 k
 rwa [(u64_nat h).1] at this
theorem num_put64 {g:Int} (h:inK .u64 g) {K:Str->Prop} (k:K (be g.toNat 8)):q138.F g K:=by
 have:=num_Put64_ok (n:=g.toNat) k
 rwa [(u64_nat h).1] at this
theorem be8 (n:Nat):(be n 8).length=8:=be_length 8 n
theorem ref05_Mint_ok {v:Vec} {g:Int} {K:(Vec×Int)->Prop} (h:K (if g=0 then(zV,14)else(mintVec v g,0))):q70.F v g K:=by
 unfold q70.F
 refine cond_ok (fun h1=>?_) (fun h1=>?_)
 ·rw [if_pos (by simpa using h1)] at h;exact h
 rw [if_neg (by simpa using h1)] at h
 unfold mintVec at h
 refine cond_ok (fun h2=>?_) (fun h2=>?_)
 ·rw [if_pos (by simpa using h2)] at h;exact h
 ·rw [if_neg (by simpa using h2)] at h;exact h
theorem ref05_Retire_ok {v:Vec} {K:Vec->Prop} (h:K (retire v)):q105.F v K:=by
 unfold q105.F
 unfold retire at h
 refine cond_ok (fun h2=>?_) (fun h2=>?_)
 ·rw [if_pos (by simpa using h2)] at h;exact h
 ·rw [if_neg (by simpa using h2)] at h;exact h
theorem ref05_From_ok {v:Vec} {g:Int} {K:Vec->Prop} (h:K (fromVec v g)):q107.F v g K:=h
theorem ref05_Place_ok {v:Vec} {g:Int} {K:Int->Prop} (h:K (place v g)):q96.F v g K:=by
 unfold q96.F
 unfold place at h
 have w0:IntKind.i64.wrap ((0:Int)+1)=1:=rfl
 have w1:IntKind.i64.wrap ((1:Int)+1)=2:=rfl
 have w2:IntKind.i64.wrap ((2:Int)+1)=3:=rfl
 have w3:IntKind.i64.wrap ((3:Int)+1)=4:=rfl
 have last:∀ n,loopB q96.b0 (n+1) (fun _=>K (-1)) (fun r2:q96.R=>K r2.t4) ⟨g,4,v⟩=K (-1):=fun n=>rfl
 refine⟨5,?_⟩
 by_cases hg:g=0
 ·rw [if_pos hg] at h
  subst hg
  exact h
 rw [if_neg hg] at h
 have gn:(g != 0)=true:=by simpa using hg
 refine round1 ?_
 unfold q96.b0
 dsimp only
 refine cond_t rfl (cond_t gn (cond_t rfl (cond_ok (fun h1=>?_) (fun h1=>?_))))
 ·rw [if_pos (by simpa using h1)] at h;exact h
 rw [if_neg (by simpa using h1)] at h
 rw [w0]
 refine round1 ?_
 dsimp only
 refine cond_t rfl (cond_t gn (cond_f rfl (cond_t rfl (cond_ok (fun h1=>?_) (fun h1=>?_)))))
 ·rw [if_pos (by simpa using h1)] at h;exact h
 rw [if_neg (by simpa using h1)] at h
 rw [w1]
 refine round1 ?_
 dsimp only
 refine cond_t rfl (cond_t gn (cond_f rfl (cond_f rfl (cond_t rfl (cond_ok (fun h1=>?_) (fun h1=>?_))))))
 ·rw [if_pos (by simpa using h1)] at h;exact h
 rw [if_neg (by simpa using h1)] at h
 rw [w2]
 refine round1 ?_
 dsimp only
 refine cond_t rfl (cond_t gn (cond_f rfl (cond_f rfl (cond_f rfl (cond_t rfl (cond_ok (fun h1=>?_) (fun h1=>?_)))))))
 ·rw [if_pos (by simpa using h1)] at h;exact h
 rw [if_neg (by simpa using h1)] at h
 rw [w3]
 exact h
theorem supR_iff {s:Super}:supR s=true↔(1≤s.blocks∧s.blocks≤32)∧s.vector.current≠0:=by
 unfold supR
 simp
theorem supRight_ok {s:Super} {K:Bool->Prop} (k:K (supR s)):q13.F s K:=by
 unfold q13.F
 refine cond_ok (fun h1=>cond_ok (fun h2=>?_) (fun h2=>?_)) (fun h1=>?_)
 ·have h1:s.blocks≥1:=of_decide_eq_true h1
  have h2:s.blocks≤32:=of_decide_eq_true h2
  refine use_eq k ?_
  unfold supR
  rw [decide_eq_true (show 1≤s.blocks∧s.blocks≤32 from ⟨h1,h2⟩)]
  rfl
 ·have h2:¬ s.blocks≤32:=of_decide_eq_false h2
  refine use_eq k ?_
  unfold supR
  rw [decide_eq_false (by omega)]
  rfl
 ·have h1:¬ s.blocks≥1:=of_decide_eq_false h1
  refine use_eq k ?_
  unfold supR
  rw [decide_eq_false (by omega)]
  rfl
theorem maskAll_ok {b:Int} (hb:inK .i64 b) {K:Int->Prop} (h:K (allM b)):q131.F b K:=by
 by_cases hr:1≤b∧b≤32
 ·obtain ⟨b,rfl⟩:∃ n:Nat,b=n:=⟨b.toNat,by omega⟩
  unfold allM at h
  rw [if_pos hr] at h
  exact mask_All_ok (by omega) (by omega) (by simpa using h)
 ·unfold allM at h
  rw [if_neg hr] at h
  unfold q131.F q131.FV
  have hb:-9223372036854775808≤b∧b≤9223372036854775807:=hb
  refine mask_there_ok (cond_t ?_ h)
  rw [decide_eq_false]
  ·rfl
  ·by_cases e:b = -9223372036854775808
   ·subst e;decide
   ·rw [wrap_i64 (by omega)];omega
theorem superRight_ok {s:Super} (hb:inK .i64 s.blocks) {K:Bool->Prop} (k:K (supR s)):q156.F s K:=by
 unfold q156.F q156.FV
 refine maskAll_ok hb ?_
 unfold allM
 by_cases hr:1≤s.blocks∧s.blocks≤32
 ·rw [if_pos hr]
  have hp:2 ^ 1≤2 ^ s.blocks.toNat:=Nat.pow_le_pow_right (by decide) (by omega)
  refine cond_t ?_ ?_
  ·simp only [bne_iff_ne,ne_eq]
   omega
  ·unfold q129.F
   refine use_eq k ?_
   unfold supR
   rw [decide_eq_true hr]
   rfl
 ·rw [if_neg hr]
  refine cond_f rfl (use_eq k ?_)
  unfold supR
  rw [decide_eq_false hr]
  rfl
theorem head_bytes {s:Super} (hr:supR s=true):bytesOfInts [IntKind.u8.wrap s.blocks,((fv ([s.inc,s.pri,s.dis].take 8):Nat):Int)]=[UInt8.ofNat s.blocks.toNat,UInt8.ofNat (fv [s.inc,s.pri,s.dis])]:=by
 have h:=(supR_iff.1 hr).1
 have:=u8s (b:=s.blocks.toNat) (by omega) (fv [s.inc,s.pri,s.dis])
 rw [show ((s.blocks.toNat:Nat):Int)=s.blocks by omega] at this
 exact this
theorem sBytes_len (s:Super):(sBytes s).length=37:=by simp [sBytes,be_length]
theorem supBytes_ok {s:Super} (w:wSup s) (hr:supR s=true) {K:Str->Prop} (k:K (sBytes s)):q17.F s K:=by
 obtain ⟨_,w1,w2,w3,w4⟩:=w
 unfold q17.F q17.FV
 refine ref01_Flags_ok ?_
 rw [head_bytes hr]
 refine gd_ok (fits_small (by simp)) (ref01_put64 w1 (gd_ok (fits_small (by simp [be8])) (ref01_put64 w2 (gd_ok (fits_small (by simp [be8])) (ref01_put64 w3 (gd_ok (fits_small (by simp [be8])) (ref01_put64 w4 (gd_ok (fits_small (by simp [be8])) ?_))))))))
 exact k
theorem supEncode_ok {s:Super} (w:wSup s) {K:(Str×Int)->Prop} (k:K (encS6 s)):q21.F s K:=by
 unfold q21.F q21.FV
 unfold encS6 at k
 refine supRight_ok (cond_ok (fun h1=>?_) (fun h1=>?_))
 ·rw [if_neg (by rw [not_t h1];simp)] at k;exact k
 ·have hr:=not_f h1
  rw [if_pos hr] at k
  exact supBytes_ok w hr (ref02_Seal_ok (wStr_of (by rw [sBytes_len];decide)) k)
theorem superEncode_ok {s:Super} (w:wSup s) {K:(Str×Int)->Prop} (k:K (encS6 s)):q157.F s K:=by
 unfold q157.F q157.FV
 unfold encS6 at k
 refine superRight_ok w.1 (cond_ok (fun h1=>?_) (fun h1=>?_))
 ·rw [if_neg (by rw [not_t h1];simp)] at k;exact k
 have hr:=not_f h1
 rw [if_pos hr] at k
 obtain ⟨_,w1,w2,w3,w4⟩:=w
 refine num_Flags_ok (gd_ok (fits_small (by simp [bytesOfInts])) ⟨5,?_⟩)
 rw [head_bytes hr]
 refine round1 ?_
 unfold q157.b0V
 dsimp only
 refine cond_t rfl (cond_t rfl (num_put64 w1 (gd_ok (fits_small (by simp [be8])) (round1 ?_))))
 refine cond_t rfl (cond_f rfl (cond_t rfl (num_put64 w2 (gd_ok (fits_small (by simp [be8])) (round1 ?_)))))
 refine cond_t rfl (cond_f rfl (cond_f rfl (cond_t rfl (num_put64 w3 (gd_ok (fits_small (by simp [be8])) (round1 ?_))))))
 refine cond_t rfl (cond_f rfl (cond_f rfl (cond_f rfl (cond_t rfl (num_put64 w4 (gd_ok (fits_small (by simp [be8])) (round1 ?_)))))))
 exact cond_f rfl (check_Seal_ok (wStr_of (by simp [be8])) k)
theorem supNumber_ok {b:Str} {i:Nat} (h:i+8≤b.length) (h2:i≤1000) {K:Int->Prop} (k:K (numAt b i)):q31.F b i K:=number_ok h h2 rfl k
theorem supDecode_ok {b:Str} (hb:b.length≤1000000) {K:(Super×Int)->Prop} (k:K (decS6 b)):q32.F b K:=by
 unfold q32.F q32.FV
 unfold decS6 at k
 refine ref02_Open_ok (wStr_of hb) (cond_ok (fun h1=>?_) (fun h1=>?_))
 ·rw [if_pos (by simpa using h1)] at k;exact k
 rw [if_neg (by simpa using h1)] at k
 have w:=decS6_w b
 unfold decS6 at w
 rw [if_neg (by simpa using h1)] at w
 generalize (openV b).1=t at k w ⊢
 refine cond_ok (fun h2=>?_) (fun h2=>?_)
 ·have h2:t.length≠37:=bne_nat (b:=37) h2
  rw [if_neg (fun h=>h2 h.1)] at k;exact k
 have hl:t.length=37:=bne_nat' (b:=37) h2
 refine oget_ok (getI_lit 0 (i:=4) (by omega)) (cond_ok (fun h3=>?_) (fun h3=>?_))
 ·have h3:((t.getD 4 0).toNat:Int) > 7:=of_decide_eq_true h3
  rw [if_neg (fun h=>by have:=h.2.1;omega)] at k;exact k
 have h3:¬ ((t.getD 4 0).toNat:Int) > 7:=of_decide_eq_false h3
 have h7:(t.getD 4 0).toNat≤7:=by omega
 have hu:unflag (t.getD 4 0).toNat 3=([bit (t.getD 4 0) 0,bit (t.getD 4 0) 1,bit (t.getD 4 0) 2],true):=by
  unfold unflag
  rw [if_pos ⟨by decide,by decide,by show _ / 2 ^ 3=0;omega⟩]
  rfl
 refine oget_ok (getI_lit 0 (i:=4) (by omega)) (ref01_Unflag_ok (u8_lt _) ?_)
 rw [hu]
 refine oget_ok (getI_lit 0 (i:=3) (by omega)) ?_
 refine supNumber_ok (i:=5) (by omega) (by decide) (supNumber_ok (i:=13) (by omega) (by decide) (supNumber_ok (i:=21) (by omega) (by decide) (supNumber_ok (i:=29) (by omega) (by decide) ?_)))
 refine oget_ok rfl (oget_ok rfl (oget_ok rfl ?_))
 have e0:IntKind.i64.wrap ((t.getD 3 0).toNat:Int)=((t.getD 3 0).toNat:Int):=by
  have:=u8_lt (t.getD 3 0)
  rw [wrap_i64 (by omega)]
 rw [e0]
 refine supRight_ok (cond_ok (fun h4=>?_) (fun h4=>?_))
 ·have h4:supR (sOfBytes t)=false:=not_t h4
  rw [if_neg (fun h=>by rw [h4] at h;exact absurd h.2.2.1 (by simp))] at k;exact k
 have h4:supR (sOfBytes t)=true:=not_f h4
 have wb:wSup (sOfBytes t):=by
  have h3':=u8_lt (t.getD 3 0)
  exact⟨i64_of (x:=((t.getD 3 0).toNat:Int)) (by omega),unbe_w _ _ (by omega),unbe_w _ _ (by omega),unbe_w _ _ (by omega),unbe_w _ _ (by omega)⟩
 refine supBytes_ok wb h4 (cond_ok (fun h5=>?_) (fun h5=>?_))
 ·have h5:¬ sBytes (sOfBytes t)=t:=by
   have:=not_t h5
   simpa using this
  rw [if_neg (fun h=>h5 h.2.2.2)] at k;exact k
 ·have h5:sBytes (sOfBytes t)=t:=by
   have:=not_f h5
   simpa using this
  rw [if_pos ⟨hl,h7,h4,h5⟩] at k;exact k
theorem fits7_ok {d:Disk} {s:Super} (hs:d.sure.length≤1000000) {K:Bool->Prop} (k:K (fitsS d s)):q33.F d s K:=by
 unfold q33.F
 rw [sub2 hs]
 refine use_eq k ?_
 unfold fitsS
 rw [Bool.eq_iff_iff,beq_iff_eq,beq_iff_eq]
 exact⟨fun h=>h.symm,fun h=>h.symm⟩
theorem fitsM_ok {d:Disk} {s:Super} (hs:d.sure.length≤1000000) {K:Bool->Prop} (k:K (fitsS d s)):q158.F d s K:=by
 unfold q158.F
 rw [sub2 hs]
 exact k
theorem ref07_Load_ok {N:Nat} {d:Disk} (hN:N≤100000) (o:OkD N d) {K:(Super×Int)->Prop} (k:K (loadS d)):q34.F d K:=by
 unfold q34.F q34.FV
 unfold loadS at k
 have hs:=o.s
 have hc:=o.c
 have hr:=read_le o 0
 refine ref04_Read_ok (by omega) (cond_ok (fun h1=>?_) (fun h1=>?_))
 ·rw [if_pos (by simpa using h1)] at k;exact k
 rw [if_neg (by simpa using h1)] at k
 refine supDecode_ok (by omega) (cond_ok (fun h2=>?_) (fun h2=>?_))
 ·rw [if_pos (by simpa using h2)] at k;exact k
 rw [if_neg (by simpa using h2)] at k
 refine fits7_ok (by omega) (cond_ok (fun h3=>?_) (fun h3=>?_))
 ·rw [if_neg (by rw [not_t h3];simp)] at k;exact k
 ·rw [if_pos (not_f h3)] at k;exact k
theorem ref07_Commit_ok {N:Nat} {d:Disk} {s:Super} (hN:N≤10000) (h64:64≤N) (o:OkD N d) (w:wSup s) {K:(Disk×Int)->Prop} (k:K (commitD d s)):q60.F d s K:=by
 unfold q60.F q60.FV
 unfold commitD at k
 have hs:=o.s
 refine supEncode_ok w ?_
 unfold encS6
 by_cases hr:supR s=true
 ·rw [if_pos hr]
  refine cond_f rfl (fits7_ok (by omega) (cond_ok (fun h2=>?_) (fun h2=>?_)))
  ·rw [if_neg (fun h=>by rw [not_t h2] at h;exact absurd h.2 (by simp))] at k;exact k
  rw [if_pos ⟨hr,not_f h2⟩] at k
  refine ref04_Write_ok (by omega) o (cond_ok (fun h3=>?_) (fun h3=>?_))
  ·rw [if_pos (by simpa using h3)] at k;exact k
  ·rw [if_neg (by simpa using h3)] at k
   exact ref04_Flush_ok (N:=N+1) (by omega) (write_ok o h64) k
 ·rw [if_neg hr]
  rw [if_neg (fun h=>hr h.1)] at k
  exact cond_t rfl k
theorem metaCommit_ok {N:Nat} {d:Disk} {s:Super} (hN:N≤10000) (h64:64≤N) (o:OkD N d) (w:wSup s) {K:(Disk×Int)->Prop} (k:K (commitD d s)):q159.F d s K:=by
 unfold q159.F q159.FV
 unfold commitD at k
 have hs:=o.s
 have hc:=o.c
 refine superEncode_ok w ?_
 unfold encS6
 by_cases hr:supR s=true
 ·rw [if_pos hr]
  refine cond_f rfl (fitsM_ok (by omega) (cond_ok (fun h2=>?_) (fun h2=>?_)))
  ·rw [if_neg (fun h=>by rw [not_t h2] at h;exact absurd h.2 (by simp))] at k;exact k
  rw [if_pos ⟨hr,not_f h2⟩] at k
  refine disk_Write_ok (by omega) o.f o.p (cond_ok (fun h3=>?_) (fun h3=>?_))
  ·rw [if_pos (by simpa using h3)] at k;exact k
  ·rw [if_neg (by simpa using h3)] at k
   have o2:=write_ok (i:=0) (data:=sealV (sBytes s)) o h64
   exact disk_Flush_ok (by have:=o2.s;omega) (by have:=o2.c;omega) o2.r o2.f o2.p k
 ·rw [if_neg hr]
  rw [if_neg (fun h=>hr h.1)] at k
  exact cond_t rfl k
def supEq (a b:Super):Bool:=((a.blocks==b.blocks)&&(((a.vector.current==b.vector.current)&&((a.vector.bitmap==b.vector.bitmap)&&(((a.vector.old0==b.vector.old0)&&((a.vector.old1==b.vector.old1)&&true))&&true)))&&((a.inc==b.inc)&&((a.pri==b.pri)&&((a.dis==b.dis)&&true)))))
theorem supEq_iff {a b:Super}:supEq a b=true↔a=b:=by
 obtain ⟨b0,⟨c,bm,o0,o1⟩,i,p,d⟩:=a
 obtain ⟨b0',⟨c',bm',o0',o1'⟩,i',p',d'⟩:=b
 unfold supEq
 simp [and_assoc]
theorem ref15_Attach_ok {N:Nat} {d:Disk} (hN:N≤10000) (o:OkD N d) {K:(Store×Int)->Prop} (k:K (stAttach d)):q43.F d K:=by
 unfold q43.F q43.FV
 unfold stAttach at k
 refine ref07_Load_ok (by omega) o (cond_ok (fun h1=>?_) (fun h1=>?_))
 ·rw [if_pos (by simpa using h1)] at k;exact k
 rw [if_neg (by simpa using h1)] at k
 refine ref08_Load_ok (by omega) o (cond_ok (fun h2=>?_) (fun h2=>?_))
 ·rw [if_pos (by simpa using h2)] at k;exact k
 rw [if_neg (by simpa using h2)] at k
 refine ref09_All_ok hN o (cond_ok (fun h3=>?_) (fun h3=>?_))
 ·rw [if_pos (by simpa using h3)] at k;exact k
 ·rw [if_neg (by simpa using h3)] at k;exact k
section
variable {N:Nat} {s:Store} (hN:N≤10000) (h64:64≤N) (o:OkS N s)
include hN h64 o
theorem ref15_Commit_ok {b:Super} (w:wSup b) {K:(Store×Int)->Prop} (k:K (stCommit s b)):q61.F s b K:=by
 unfold q61.F q61.FV
 unfold stCommit at k
 refine cond_ok (fun h1=>?_) (fun h1=>?_)
 ·rw [if_pos (supEq_iff.1 h1)] at k;exact k
 rw [if_neg (fun e=>by have h1:supEq b s.sup=false:=h1;rw [supEq_iff.2 e] at h1;cases h1)] at k
 refine ref07_Commit_ok hN h64 o.d w (cond_ok (fun h2=>?_) (fun h2=>?_))
 ·rw [if_pos (by simpa using h2)] at k;exact k
 ·rw [if_neg (by simpa using h2)] at k;exact k
theorem storeCommit_ok {b:Super} (w:wSup b) {K:(Store×Int)->Prop} (k:K (stCommit s b)):q160.F s b K:=by
 unfold q160.F q160.FV
 unfold stCommit at k
 refine cond_ok (fun h1=>?_) (fun h1=>?_)
 ·rw [if_pos (supEq_iff.1 h1)] at k;exact k
 rw [if_neg (fun e=>by have h1:supEq b s.sup=false:=h1;rw [supEq_iff.2 e] at h1;cases h1)] at k
 refine metaCommit_ok hN h64 o.d w (cond_ok (fun h2=>?_) (fun h2=>?_))
 ·rw [if_pos (by simpa using h2)] at k;exact k
 ·rw [if_neg (by simpa using h2)] at k;exact k
theorem ref15_save_ok {m:Int} (hm:inK .u32 m) {K:(Store×Int)->Prop} (k:K (stSave s m)):q75.F s m K:=by
 unfold q75.F q75.FV
 unfold stSave at k
 refine cond_ok (fun h1=>?_) (fun h1=>?_)
 ·rw [if_pos (by simpa using h1)] at k;exact k
 rw [if_neg (by simpa using h1)] at k
 have:=ref08_Save_ok (d:=s.disk) (m:=m.toNat) (K:=fun r1=>bif r1.2==0 then K (⟨r1.1,s.sup,m⟩,r1.2)else K (⟨r1.1,s.sup,s.mask⟩,r1.2)) (u32_toNat hm).1 hN h64 o.d (cond_ok (fun h2=>by
  rw [if_pos (by simpa using h2)] at k;exact k) (fun h2=>by
  rw [if_neg (by simpa using h2)] at k;exact k))
 rwa [(u32_toNat hm).2] at this
theorem ref15_Mark_ok {i:Int} {K:(Store×Int)->Prop} (k:K (stMark s i)):q76.F s i K:=by
 unfold q76.F q76.FV
 unfold stMark at k
 refine cond_ok (fun h1=>?_) (fun h1=>cond_ok (fun h2=>?_) (fun h2=>?_))
 ·have h1:i < 0:=of_decide_eq_true h1
  rw [if_neg (by omega)] at k;exact k
 ·have h2:i≥s.sup.blocks:=of_decide_eq_true h2
  rw [if_neg (by omega)] at k;exact k
 ·have h1:¬ i < 0:=of_decide_eq_false h1
  have h2:¬ i≥s.sup.blocks:=of_decide_eq_false h2
  rw [if_pos (by omega)] at k
  exact ref03_Set_ok (by simp) o.m (ref15_save_ok hN h64 o (setL_u32 _ _ o.m) k)
theorem ref15_Wipe_ok {i:Int} {K:(Store×Int)->Prop} (k:K (stWipe s i)):q113.F s i K:=by
 unfold q113.F q113.FV
 unfold stWipe at k
 refine cond_ok (fun h1=>?_) (fun h1=>cond_ok (fun h2=>?_) (fun h2=>?_))
 ·have h1:i < 0:=of_decide_eq_true h1
  rw [if_neg (by omega)] at k;exact k
 ·have h2:i≥s.sup.blocks:=of_decide_eq_true h2
  rw [if_neg (by omega)] at k;exact k
 have h1:¬ i < 0:=of_decide_eq_false h1
 have h2:¬ i≥s.sup.blocks:=of_decide_eq_false h2
 rw [if_pos (by omega)] at k
 unfold stNote at k
 refine ref03_Clear_ok o.m (cond_ok (fun h3=>?_) (fun h3=>?_))
 ·rw [if_pos (by simpa using h3)] at k;exact k
 rw [if_neg (by simpa using h3)] at k
 have hm:=clr_u32 (i:=i) o.m
 have:=ref08_Note_ok (d:=s.disk) (m:=(clrM s.mask i).toNat) (K:=fun r2=>bif r2.2==0 then K (⟨r2.1,s.sup,clrM s.mask i⟩,r2.2)else K (⟨r2.1,s.sup,s.mask⟩,r2.2)) (u32_toNat hm).1 (by omega) o.d (cond_ok (fun h2=>by
  rw [if_pos (by simpa using h2)] at k;exact k) (fun h2=>by
  rw [if_neg (by simpa using h2)] at k;exact k))
 rwa [(u32_toNat hm).2] at this
theorem ref15_Join_ok {m:Int} (hm:inK .u32 m) {K:(Store×Int)->Prop} (k:K (stJoin s m)):q106.F s m K:=by
 unfold q106.F q106.FV
 exact ref03_Union_ok o.m hm (ref15_save_ok hN h64 o (or_u32 o.m hm) k)
theorem ref15_Put_ok {i:Int} {data:Str} {K:(Store×Int)->Prop} (k:K (stPut s i data)):q79.F s i data K:=by
 unfold q79.F q79.FV
 exact ref09_Put_ok hN h64 o.d k
omit h64 in
theorem ref15_Read_ok {i:Int} {K:(Str×Int)->Prop} (k:K (stRead s i)):q68.F s i K:=by
 unfold q68.F q68.FV
 exact ref09_Read_ok (by omega) o.d k
end
end Gm

set_option maxRecDepth 100000
namespace Gm
open Go
theorem eq_t {a b:Int} (h:(a==b)=true):a=b:=eq_of_beq h
theorem eq_f {a b:Int} (h:(a==b)=false):a≠b:=by simpa using h
theorem ne_t {a b:Int} (h:(a != b)=true):a≠b:=by simpa using h
theorem ne_f {a b:Int} (h:(a != b)=false):a=b:=by simpa using h
theorem nt {b:Bool} (h:b=false):¬ b=true:=by rw [h];simp
theorem nf {b:Bool} (h:b=true):¬ b=false:=by rw [h];simp
theorem onto_ok {kind source:Int} {t:Hello} {K:Verdict->Prop} (k:K (ontoV kind source t)):q98.F kind source t K:=by
 unfold q98.F q98.FV q95.F
 unfold ontoV noVer at k
 refine cond_ok (fun h1=>?_) (fun h1=>cond_ok (fun h2=>?_) (fun h2=>?_))
 ·rw [if_pos (.inl h1)] at k;exact k
 ·rw [if_pos (.inr (eq_t h2))] at k;exact k
 ·rw [if_neg (fun h=>h.elim (nt h1) (eq_f h2))] at k;exact k
theorem half_ok {s t:Hello} {K:Int->Prop} (k:K (halfV s t)):q97.F s t K:=by
 unfold q97.F q97.FV
 unfold halfV at k
 refine cond_ok (fun h1=>?_) (fun h1=>ref05_Place_ok (cond_ok (fun h2=>?_) (fun h2=>cond_ok (fun h3=>?_) (fun h3=>ref05_Place_ok (cond_ok (fun h4=>?_) (fun h4=>cond_ok (fun h5=>?_) (fun h5=>?_)))))))
 ·rw [if_pos h1] at k;exact k
 all_goals rw [if_neg (nt h1)] at k
 ·rw [if_pos (of_decide_eq_true h2)] at k;exact k
 all_goals rw [if_neg (of_decide_eq_false h2)] at k
 ·rw [if_pos h3] at k;exact k
 all_goals rw [if_neg (nt h3)] at k
 ·rw [if_pos (of_decide_eq_true h4)] at k;exact k
 all_goals rw [if_neg (of_decide_eq_false h4)] at k
 ·rw [if_pos (of_decide_eq_true h5)] at k;exact k
 ·rw [if_neg (of_decide_eq_false h5)] at k;exact k
theorem place_le (v:Vec) (g:Int):place v g≤3∧-1≤place v g:=by
 unfold place
 repeat' split
 all_goals decide
def byGens (x y:Hello):Verdict:=
 if place x.vector y.vector.current > 0∧place y.vector x.vector.current < 0 then ontoV (kindsV (place x.vector y.vector.current)) 0 y
 else if place y.vector x.vector.current > 0∧place x.vector y.vector.current < 0 then ontoV (kindsV (place y.vector x.vector.current)) 1 x
 else noVer
def sameGen (x y:Hello):Verdict:=
 if x.mask=0∧y.mask=0 then ⟨1,-1⟩
 else if y.pri=true∨(x.pri=false∧y.was=true∧x.was=false)then ontoV 2 1 x
 else ontoV 2 0 y
def noHalf (x y:Hello):Verdict:=if x.vector.current=y.vector.current then sameGen x y else byGens x y
theorem decide_of (x y:Hello):decideV x y =
  if x.blocks≠y.blocks∨(x.pri=true∧y.pri=true)∨(x.inc=true∧y.inc=true)∨(x.dis=true∧y.dis=true)then noVer
  else if x.inc=true then ontoV (halfV y x) 1 x
  else if y.inc=true then ontoV (halfV x y) 0 y
  else if x.dis=true then ontoV 3 1 x
  else if y.dis=true then ontoV 3 0 y
  else noHalf x y:=rfl
theorem kinds_cond {p:Int} (hp:p≤3) (h0:p > 0) {s:Int} {t:Hello} {K:Verdict->Prop} (k:K (ontoV (kindsV p) s t)) :
  bif p==0 then q98.F 4 s t K else bif p==1 then q98.F 2 s t K else bif p==2 then q98.F 3 s t K else bif p==3 then q98.F 3 s t K else False:=by
 unfold kindsV at k
 refine cond_ok (fun h1=>?_) (fun h1=>cond_ok (fun h2=>?_) (fun h2=>cond_ok (fun h3=>?_) (fun h3=>cond_ok (fun h4=>?_) (fun h4=>?_))))
 ·have:=eq_t h1;omega
 ·have:=eq_t h2
  subst this
  exact onto_ok k
 ·have:=eq_t h3
  subst this
  exact onto_ok k
 ·have:=eq_t h4
  subst this
  exact onto_ok k
 ·have:=eq_f h1
  have:=eq_f h2
  have:=eq_f h3
  have:=eq_f h4
  omega
theorem gens_ok {x y:Hello} {K:Verdict->Prop} (k:K (byGens x y)) :
  q96.F x.vector y.vector.current fun r21=>q96.F y.vector x.vector.current fun r22=>
   bif decide (r21 > 0)then
    bif decide (r22 < 0)then bif r21==0 then q98.F 4 0 y K else bif r21==1 then q98.F 2 0 y K else bif r21==2 then q98.F 3 0 y K else bif r21==3 then q98.F 3 0 y K else False
    else bif decide (r22 > 0)then
     bif decide (r21 < 0)then bif r22==0 then q98.F 4 1 x K else bif r22==1 then q98.F 2 1 x K else bif r22==2 then q98.F 3 1 x K else bif r22==3 then q98.F 3 1 x K else False
     else q95.F K
    else q95.F K
   else bif decide (r22 > 0)then
     bif decide (r21 < 0)then bif r22==0 then q98.F 4 1 x K else bif r22==1 then q98.F 2 1 x K else bif r22==2 then q98.F 3 1 x K else bif r22==3 then q98.F 3 1 x K else False
     else q95.F K
    else q95.F K:=by
 refine ref05_Place_ok (ref05_Place_ok ?_)
 unfold byGens at k
 have p1:=(place_le x.vector y.vector.current).1
 have p2:=(place_le y.vector x.vector.current).1
 generalize place x.vector y.vector.current=p at k p1 ⊢
 generalize place y.vector x.vector.current=q at k p2 ⊢
 have second:¬ (p > 0∧q < 0)->bif decide (q > 0)then
     bif decide (p < 0)then bif q==0 then q98.F 4 1 x K else bif q==1 then q98.F 2 1 x K else bif q==2 then q98.F 3 1 x K else bif q==3 then q98.F 3 1 x K else False
     else q95.F K
    else q95.F K:=by
  intro hn
  rw [if_neg hn] at k
  refine cond_ok (fun h1=>cond_ok (fun h2=>?_) (fun h2=>?_)) (fun h1=>?_)
  ·rw [if_pos ⟨of_decide_eq_true h1,of_decide_eq_true h2⟩] at k
   exact kinds_cond p2 (of_decide_eq_true h1) k
  ·rw [if_neg (fun h=>of_decide_eq_false h2 h.2)] at k;exact k
  ·rw [if_neg (fun h=>of_decide_eq_false h1 h.1)] at k;exact k
 refine cond_ok (fun h1=>cond_ok (fun h2=>?_) (fun h2=>?_)) (fun h1=>?_)
 ·rw [if_pos ⟨of_decide_eq_true h1,of_decide_eq_true h2⟩] at k
  exact kinds_cond p1 (of_decide_eq_true h1) k
 ·exact second (fun h=>of_decide_eq_false h2 h.2)
 ·exact second (fun h=>of_decide_eq_false h1 h.1)
theorem sameGen_ok {x y:Hello} {K:Verdict->Prop} (k:K (sameGen x y)) :
  bif x.mask==0 then
   bif y.mask==0 then K ⟨1,-1⟩ else bif y.pri then q98.F 2 1 x K else bif !x.pri then bif y.was then bif !x.was then q98.F 2 1 x K else q98.F 2 0 y K else q98.F 2 0 y K else q98.F 2 0 y K
  else bif y.pri then q98.F 2 1 x K else bif !x.pri then bif y.was then bif !x.was then q98.F 2 1 x K else q98.F 2 0 y K else q98.F 2 0 y K else q98.F 2 0 y K:=by
 unfold sameGen at k
 have second:¬ (x.mask=0∧y.mask=0)->bif y.pri then q98.F 2 1 x K else bif !x.pri then bif y.was then bif !x.was then q98.F 2 1 x K else q98.F 2 0 y K else q98.F 2 0 y K else q98.F 2 0 y K:=by
  intro hn
  rw [if_neg hn] at k
  refine cond_ok (fun h1=>?_) (fun h1=>cond_ok (fun h2=>cond_ok (fun h3=>cond_ok (fun h4=>?_) (fun h4=>?_)) (fun h3=>?_)) (fun h2=>?_))
  ·rw [if_pos (.inl h1)] at k;exact onto_ok k
  ·rw [if_pos (.inr ⟨not_t h2,h3,not_t h4⟩)] at k;exact onto_ok k
  ·rw [if_neg (fun h=>h.elim (nt h1) (fun h=>nf (not_f h4) h.2.2))] at k;exact onto_ok k
  ·rw [if_neg (fun h=>h.elim (nt h1) (fun h=>nt h3 h.2.1))] at k;exact onto_ok k
  ·rw [if_neg (fun h=>h.elim (nt h1) (fun h=>nf (not_f h2) h.1))] at k;exact onto_ok k
 refine cond_ok (fun h1=>cond_ok (fun h2=>?_) (fun h2=>?_)) (fun h1=>?_)
 ·rw [if_pos ⟨eq_t h1,eq_t h2⟩] at k;exact k
 ·exact second (fun h=>eq_f h2 h.2)
 ·exact second (fun h=>eq_f h1 h.1)
theorem noHalf_ok {x y:Hello} {K:Verdict->Prop} {p q:Prop} (k:K (noHalf x y)) (h1:K (sameGen x y)->p) (h2:K (byGens x y)->q):bif x.vector.current==y.vector.current then p else q:=by
 unfold noHalf at k
 refine cond_ok (fun h=>?_) (fun h=>?_)
 ·rw [if_pos (eq_t h)] at k;exact h1 k
 ·rw [if_neg (eq_f h)] at k;exact h2 k
def samP (x y:Hello) (K:Verdict->Prop):Prop:=
 bif x.mask==0 then
   bif y.mask==0 then K ⟨1,-1⟩ else bif y.pri then q98.F 2 1 x K else bif !x.pri then bif y.was then bif !x.was then q98.F 2 1 x K else q98.F 2 0 y K else q98.F 2 0 y K else q98.F 2 0 y K
  else bif y.pri then q98.F 2 1 x K else bif !x.pri then bif y.was then bif !x.was then q98.F 2 1 x K else q98.F 2 0 y K else q98.F 2 0 y K else q98.F 2 0 y K
def genP (x y:Hello) (K:Verdict->Prop):Prop:=
 q96.F x.vector y.vector.current fun r21=>q96.F y.vector x.vector.current fun r22=>
   bif decide (r21 > 0)then
    bif decide (r22 < 0)then bif r21==0 then q98.F 4 0 y K else bif r21==1 then q98.F 2 0 y K else bif r21==2 then q98.F 3 0 y K else bif r21==3 then q98.F 3 0 y K else False
    else bif decide (r22 > 0)then
     bif decide (r21 < 0)then bif r22==0 then q98.F 4 1 x K else bif r22==1 then q98.F 2 1 x K else bif r22==2 then q98.F 3 1 x K else bif r22==3 then q98.F 3 1 x K else False
     else q95.F K
    else q95.F K
   else bif decide (r22 > 0)then
     bif decide (r21 < 0)then bif r22==0 then q98.F 4 1 x K else bif r22==1 then q98.F 2 1 x K else bif r22==2 then q98.F 3 1 x K else bif r22==3 then q98.F 3 1 x K else False
     else q95.F K
    else q95.F K
def tailP (x y:Hello) (K:Verdict->Prop):Prop:=
 bif x.inc then q97.F y x fun r=>q98.F r 1 x K else bif y.inc then q97.F x y fun r=>q98.F r 0 y K else bif x.dis then q98.F 3 1 x K else bif y.dis then q98.F 3 0 y K else
  bif x.vector.current==y.vector.current then samP x y K else genP x y K
def disP (x y:Hello) (K:Verdict->Prop):Prop:=bif x.dis then bif y.dis then q95.F K else tailP x y K else tailP x y K
def incP (x y:Hello) (K:Verdict->Prop):Prop:=bif x.inc then bif y.inc then q95.F K else disP x y K else disP x y K
theorem decide_ok {x y:Hello} {K:Verdict->Prop} (k:K (decideV x y)):q99.F x y K:=by
 unfold q99.F q99.FV
 rw [decide_of] at k
 refine cond_ok (fun h1=>?_) (fun h1=>?_)
 ·rw [if_pos (.inl (ne_t h1))] at k;exact k
 have h1:=ne_f h1
 have rest:¬ (x.pri=true∧y.pri=true)->¬ (x.inc=true∧y.inc=true)->¬ (x.dis=true∧y.dis=true)->K (if x.inc=true then ontoV (halfV y x) 1 x
  else if y.inc=true then ontoV (halfV x y) 0 y
  else if x.dis=true then ontoV 3 1 x
  else if y.dis=true then ontoV 3 0 y
  else noHalf x y):=fun a b c=>by
   rw [if_neg (fun h=>h.elim (fun h=>h h1) (fun h=>h.elim a (fun h=>h.elim b c)))] at k
   exact k
 have bad:(x.pri=true∧y.pri=true)∨(x.inc=true∧y.inc=true)∨(x.dis=true∧y.dis=true)->K noVer:=fun h=>by
  rw [if_pos (.inr h)] at k
  exact k
 clear k
 have tail:¬ (x.pri=true∧y.pri=true)->¬ (x.inc=true∧y.inc=true)->¬ (x.dis=true∧y.dis=true)->tailP x y K:=by
  intro hp hi hd
  have k:=rest hp hi hd
  unfold tailP
  refine cond_ok (fun h1=>?_) (fun h1=>cond_ok (fun h2=>?_) (fun h2=>cond_ok (fun h3=>?_) (fun h3=>cond_ok (fun h4=>?_) (fun h4=>?_))))
  ·rw [if_pos h1] at k;exact half_ok (onto_ok k)
  all_goals rw [if_neg (nt h1)] at k
  ·rw [if_pos h2] at k;exact half_ok (onto_ok k)
  all_goals rw [if_neg (nt h2)] at k
  ·rw [if_pos h3] at k;exact onto_ok k
  all_goals rw [if_neg (nt h3)] at k
  ·rw [if_pos h4] at k;exact onto_ok k
  rw [if_neg (nt h4)] at k
  exact noHalf_ok k sameGen_ok gens_ok
 have dis:¬ (x.pri=true∧y.pri=true)->¬ (x.inc=true∧y.inc=true)->disP x y K:=fun hp hi=>
  cond_ok (fun h1=>cond_ok (fun h2=>bad (.inr (.inr ⟨h1,h2⟩))) (fun h2=>tail hp hi (fun h=>nt h2 h.2))) (fun h1=>tail hp hi (fun h=>nt h1 h.1))
 have inc:¬ (x.pri=true∧y.pri=true)->incP x y K:=fun hp=>
  cond_ok (fun h1=>cond_ok (fun h2=>bad (.inr (.inl ⟨h1,h2⟩))) (fun h2=>dis hp (fun h=>nt h2 h.2))) (fun h1=>dis hp (fun h=>nt h1 h.1))
 show bif x.pri then bif y.pri then q95.F K else incP x y K else incP x y K
 exact cond_ok (fun h1=>cond_ok (fun h2=>bad (.inl ⟨h1,h2⟩)) (fun h2=>inc (fun h=>nt h2 h.2))) (fun h1=>inc (fun h=>nt h1 h.1))
theorem bits_ok {v:Verdict} {x y:Hello} (hx:wHello x) (hy:wHello y) {K:Int->Prop} (k:K (bitsV v x y)):q103.F v x y K:=by
 unfold q103.F q103.FV
 unfold bitsV at k
 refine cond_ok (fun h1=>?_) (fun h1=>cond_ok (fun h2=>?_) (fun h2=>?_))
 ·rw [if_pos (eq_t h1)] at k;exact ref03_Union_ok hx.2.2 hy.2.2 k
 ·rw [if_neg (eq_f h1),if_pos (eq_t h2)] at k;exact ref03_All_ok k
 ·rw [if_neg (eq_f h1),if_neg (eq_f h2)] at k;exact k
theorem out_ok {n:Nat} (h:n≤100000):decide (n * 48≤room)=true:=fit_ok (by omega)
theorem reply_ok {n:Node} {id e:Int} {data:Str} {K:Outp->Prop} (k:K (replyO n id e data)):q46.F n id e data K:=k
theorem linked_ok {n:Node} {K:Bool->Prop} (k:K (linkedN n)):q48.F n K:=by
 unfold q48.F
 unfold linkedN at k
 refine cond_ok (fun h=>?_) (fun h=>?_)
 ·rw [h,Bool.true_or] at k;exact k
 ·rw [h,Bool.false_or] at k;exact k
theorem send_ok {n:Node} {p:Packet} (hs:inK .u64 n.session) (hw:wHello p.hello) {K:(Int×Str)->Prop} (k:K (n.id,(encP { p with session:=n.session }).1)):q56.F n p K:=by
 unfold q56.F q56.FV
 refine ref13_Encode_ok (p:={ p with session:=n.session }) hw hs ?_
 exact k
theorem down_ok {n:Node} {K:Node->Prop} (k:K (downN n)):q63.F n K:=k
theorem keep7_ok {n:Node} {s:Store} {e:Int} {K:(Node×Bool)->Prop} (k:K (keepN n (s,e))):q77.F n s e K:=by
 unfold q77.F q77.FV
 unfold keepN at k
 refine cond_ok (fun h=>?_) (fun h=>?_)
 ·rw [if_neg (ne_t h)] at k;exact k
 ·rw [if_pos (ne_f h)] at k;exact k
section
variable {N:Nat} {n:Node} (hN:N≤9000) (h64:64≤N) (o:OkN N n)
include hN h64 o
theorem commit_ok {b:Super} (w:wSup b) {K:(Node×Bool)->Prop} (k:K (commitN n b)):q64.F n b K:=by
 unfold q64.F q64.FV
 unfold commitN keepN at k
 refine ref15_Commit_ok (by omega) h64 o.st w (cond_ok (fun h=>?_) (fun h=>?_))
 ·rw [if_neg (ne_t h)] at k;exact k
 ·rw [if_pos (ne_f h)] at k;exact k
end
section
variable {N:Nat} {n:Node} (hN:N≤8000) (h64:64≤N) (o:OkN N n)
include hN h64 o
theorem attach_ok {keeps:List Bool} {K:(Node×Int)->Prop} (k:K (attachN n keeps)):q44.F n keeps K:=by
 unfold q44.F q44.FV
 unfold attachN at k
 have hs:=o.st.d.s
 have hc:=o.st.d.c
 refine cond_ok (fun h=>?_) (fun h=>?_)
 ·rw [if_pos h] at k;exact k
 rw [if_neg (nt h)] at k
 refine ref04_Revive_ok (by omega) (by omega) o.st.d.r (ref15_Attach_ok (by omega) (revive_ok o.st.d keeps) (cond_ok (fun h2=>?_) (fun h2=>?_)))
 ·rw [if_pos (ne_t h2)] at k;exact k
 ·rw [if_neg (fun e=>e (ne_f h2))] at k;exact k
theorem promote_ok {id:Int} {K:NO->Prop} (k:K (promoteN n id)):q65.F n id K:=by
 unfold q65.F q65.FV
 unfold promoteN at k
 refine cond_ok (fun h=>?_) (fun h=>?_)
 ·rw [if_pos (not_t h)] at k;exact k
 rw [if_neg (nf (not_f h))] at k
 refine cond_ok (fun h=>?_) (fun h=>?_)
 ·rw [if_pos h] at k;exact k
 rw [if_neg (nt h)] at k
 refine cond_ok (fun h=>?_) (fun h=>?_)
 ·rw [if_pos h] at k;exact k
 rw [if_neg (nt h)] at k
 refine cond_ok (fun h=>?_) (fun h=>?_)
 ·rw [if_pos h] at k;exact k
 rw [if_neg (nt h)] at k
 refine cond_ok (fun h1=>?_) (fun h1=>?_)
 ·rw [if_pos (.inl (eq_t h1))] at k;exact k
 refine cond_ok (fun h2=>?_) (fun h2=>?_)
 ·rw [if_pos (.inr (.inl (eq_t h2)))] at k;exact k
 refine cond_ok (fun h3=>?_) (fun h3=>?_)
 ·rw [if_pos (.inr (.inr h3))] at k;exact k
 rw [if_neg (fun h=>h.elim (eq_f h1) (fun h=>h.elim (eq_f h2) (nt h3)))] at k
 refine cond_ok (fun h=>?_) (fun h=>?_)
 ·rw [if_pos h] at k;exact k
 rw [if_neg (nt h)] at k
 refine linked_ok (cond_ok (fun h=>?_) (fun h=>?_))
 ·rw [if_pos h] at k
  refine send_ok (by exact o.se) (by exact wZH) ?_
  exact k
 rw [if_neg (nt h)] at k
 refine commit_ok (by omega) h64 o (b:=priS n.store.sup true) o.sup (cond_ok (fun h=>?_) (fun h=>?_))
 ·rw [if_neg (nt (not_t h))] at k;exact k
 ·rw [if_pos (not_f h)] at k;exact k
theorem demote_ok {id:Int} {K:NO->Prop} (k:K (demoteN n id)):q66.F n id K:=by
 unfold q66.F q66.FV
 unfold demoteN at k
 refine cond_ok (fun h=>?_) (fun h=>?_)
 ·rw [if_pos (not_t h)] at k;exact k
 rw [if_neg (nf (not_f h))] at k
 refine cond_ok (fun h=>?_) (fun h=>?_)
 ·rw [if_pos (not_t h)] at k;exact k
 rw [if_neg (nf (not_f h))] at k
 refine cond_ok (fun h1=>?_) (fun h1=>?_)
 ·rw [if_pos (.inl h1)] at k;exact k
 refine cond_ok (fun h2=>?_) (fun h2=>?_)
 ·rw [if_pos (.inr (eq_t h2))] at k;exact k
 rw [if_neg (fun h=>h.elim (nt h1) (eq_f h2))] at k
 have oc:=okN_commit (b:=priS n.store.sup false) o h64 o.sup
 refine commit_ok (by omega) h64 o (b:=priS n.store.sup false) o.sup (cond_ok (fun h=>?_) (fun h=>?_))
 ·rw [if_neg (nt (not_t h))] at k;exact k
 rw [if_pos (not_f h)] at k
 refine linked_ok (cond_ok (fun h=>?_) (fun h=>?_))
 ·dsimp only at k
  rw [if_pos h] at k
  refine send_ok (by exact oc.se) (by exact wZH) ?_
  refine gd_ok (out_ok (by simp)) ?_
  refine reply_ok ?_
  refine gd_ok (out_ok (by simp)) ?_
  exact k
 ·dsimp only at k
  rw [if_neg (nt h)] at k
  refine reply_ok ?_
  refine gd_ok (out_ok (by simp)) ?_
  exact k
theorem discard_ok {id:Int} {K:NO->Prop} (k:K (discardN n id)):q67.F n id K:=by
 unfold q67.F q67.FV
 unfold discardN at k
 refine cond_ok (fun h=>?_) (fun h=>?_)
 ·rw [if_pos (not_t h)] at k;exact k
 rw [if_neg (nf (not_f h))] at k
 refine cond_ok (fun h=>?_) (fun h=>?_)
 ·rw [if_pos h] at k;exact k
 rw [if_neg (nt h)] at k
 refine cond_ok (fun h=>?_) (fun h=>?_)
 ·rw [if_pos (ne_t h)] at k;exact k
 rw [if_neg (fun e=>e (ne_f h))] at k
 refine commit_ok (by omega) h64 o (b:={ n.store.sup with dis:=true }) o.sup (cond_ok (fun h=>?_) (fun h=>?_))
 ·rw [if_neg (nt (not_t h))] at k;exact k
 ·rw [if_pos (not_f h)] at k;exact k
theorem nread_ok {id b:Int} {K:NO->Prop} (k:K (readN n id b)):q69.F n id b K:=by
 unfold q69.F q69.FV
 unfold readN at k
 refine cond_ok (fun h=>?_) (fun h=>?_)
 ·rw [if_pos (not_t h)] at k;exact k
 rw [if_neg (nf (not_f h))] at k
 refine cond_ok (fun h=>?_) (fun h=>?_)
 ·rw [if_pos (not_t h)] at k;exact k
 rw [if_neg (nf (not_f h))] at k
 exact ref15_Read_ok (by omega) o.st k
theorem mint_ok {K:(Node×Int)->Prop} (k:K (mintN n)):q71.F n K:=by
 unfold q71.F q71.FV
 unfold mintN at k
 have hd:=o.dl
 have hm:=o.ml
 cases hdr:n.draws with
 | nil=>
  rw [hdr] at k
  exact cond_t rfl k
 | cons g r=>
  rw [hdr] at k hd
  have hg:inK .u64 g:=o.dg g (by rw [hdr];simp)
  have e:sub (g :: r) (Int.toNat 1) (g :: r).length=r:=by
   unfold sub
   rw [List.take_length]
   rfl
  refine cond_f (by rw [List.length_cons];exact beq_eq_false_iff_ne.2 (by omega)) (oget_ok (v:=g) rfl (gd_ok (by rw [List.length_cons];simp;omega) (gd_ok (fit_ok (by rw [e];simp at hd;omega)) ?_)))
  rw [e]
  dsimp only at k
  refine cond_ok (fun h=>?_) (fun h=>?_)
  ·rw [if_pos (eq_t h)] at k;exact k
  rw [if_neg (eq_f h)] at k
  refine gd_ok (fit_ok (by omega)) ?_
  refine gd_ok (fit_ok (by rw [List.length_singleton];omega)) ?_
  refine ref05_Mint_ok ?_
  rw [if_neg (eq_f h)]
  have hr:∀ x∈r,inK .u64 x:=fun x hx=>o.dg x (by rw [hdr];exact List.mem_cons_of_mem _ hx)
  have om:OkN (N+1) { n with draws:=r,mints:=n.mints++[⟨g,n.store.sup.vector.current,n.id⟩] }:=
   ⟨o.st.up (by omega),o.se,o.pe,o.rq,by show r.length≤N+1;simp at hd;omega,hr,by
     show(n.mints++[_]).length≤N+1
     simp;omega,o.wa⟩
  refine commit_ok (N:=N+1) (by omega) (by omega) om (b:={ n.store.sup with vector:=mintVec n.store.sup.vector g }) ⟨o.st.b,mint_vec o.st.v hg⟩ (cond_ok (fun h=>?_) (fun h=>?_))
  ·rw [if_neg (nt (not_t h))] at k;exact k
  ·rw [if_pos (not_f h)] at k;exact k
end
end Gm
