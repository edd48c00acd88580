/- Printed by a program (gen.py): the functions' answers, and that they are so. -/
import Derived.Test.YtlaijgoahmigmaaGreatDoorGdT7
set_option linter.unusedVariables false
set_option maxRecDepth 100000
namespace Gm
open Go Go.Proofs
namespace q189
abbrev A:List Ty:=[]
abbrev C:=(cTy .bool)
abbrev T:Type:=(Bool->Prop)->Prop
noncomputable def tv (f0:q127.T) (f1:q169.T) (f2:q170.T) (f3:q188.T):Tab:=[(27,mkEntry q127.A q127.C fun x=>f0 x.1 x.2.1),(20,mkEntry q169.A q169.C fun x=>f1 x.1 x.2.1),(28,mkEntry q170.A q170.C fun x=>f2 x.1),(25,mkEntry q188.A q188.C fun x=>f3 x.1 x.2.1)]
noncomputable def tab:Tab:=tv q127.F q169.F q170.F q188.F
def FV (f0:q127.T) (f1:q169.T) (f2:q170.T) (f3:q188.T) (K:Bool->Prop):Prop:=
 (f0 1 ([]:List Event) fun r1=>(f1 r1.n0 4 fun r2=>(f1 r1.n1 4 fun r3=>(f2 r3.1 fun r4=>(f3 r2.1 r4 fun r5=>(f2 r2.1 fun r6=>(f3 r3.1 r6 fun r7=>(f0 1 ([(⟨1,0,0,0,([]:Str),0,([]:List Bool)⟩:Event),(⟨13,0,0,0,([]:Str),9,([]:List Bool)⟩:Event),(⟨5,0,1,1,([97,98,99,100,101,102,103,104]:Str),0,([]:List Bool)⟩:Event)]:List Event) fun r8=>(f1 r8.n0 4 fun r9=>(f1 r8.n1 4 fun r10=>(f2 r10.1 fun r11=>(f3 r9.1 r11 fun r12=>(f2 r9.1 fun r13=>(f3 r10.1 r13 fun r14=>(f3 r2.1 (⟨2,(⟨77,0,0,0⟩:Vec),false,false,false,false,0⟩:Hello) fun r15=>(bif((r2.2.length:Int) != 1)then(K false)else(bif((r3.2.length:Int) != 1)then(K false)else(bif((IntKind.i64.wrap ((r5.2.length:Int)+(r7.2.length:Int))) != 0)then(K false)else(bif((r12.2.length:Int) != 0)then(K false)else(bif((r14.2.length:Int) != 1)then(K false)else(bif((r15.2.length:Int) != 1)then(K false)else(bif(r2.1.state==1)then(bif(r2.1.session==4)then(oget (getI r2.2 0) fun v16=>(bif(v16.kind==1)then(oget (getI r3.2 0) fun v17=>(bif(v17.node==1)then(bif(r5.1.state==2)then(bif(r7.1.state==2)then(bif(r12.1.state==3)then(bif(r14.1.state==4)then(bif r14.1.peerPri then(bif r14.1.store.sup.inc then(bif(r14.1.store.sup.vector.bitmap==9)then(bif(r14.1.store.mask==2)then(bif(r14.1.wanted==2)then(oget (getI r15.2 0) fun v18=>(K ((v18.kind==3)&&((v18.node==0)&&((v18.id==0)&&((v18.err==0)&&((v18.data==([]:Str))&&true)))))))else(K false))else(K false))else(K false))else(K false))else(K false))else(K false))else(K false))else(K false))else(K false))else(K false)))else(K false)))else(K false))else(K false)))))))))))))))))))))))
def F (K:Bool->Prop):Prop:=FV q127.F q169.F q170.F q188.F K
noncomputable def en:Entry:=mkEntry A C fun _=>F
theorem eqv (f0:q127.T) (f1:q169.T) (f2:q170.T) (f3:q188.T) (K:Bool->Prop):apure E (tv f0 f1 f2 f3) (fun _=>none) 4 18 [] (ansK C K)=FV f0 f1 f2 f3 K:=by kernel_rfl
theorem eq (x:Dens A) (K:Bool->Prop):apure E tab (fun _=>none) 4 18 (encA A x) (ansK C K)=F K:=eqv q127.F q169.F q170.F q188.F K
theorem loops:LoopsOk E tab (fun _=>none) 4 18:=loops_none _ _ _ _
theorem det:Det (F):=by
 unfold F FV
 repeat' with_reducible first|exact det_ret _|refine det_cond _ ?_ ?_|refine det_oget _ (fun _=>?_)|refine det_bind (q127.det _ _) (fun _=>?_)|refine det_bind (q169.det _ _) (fun _=>?_)|refine det_bind (q170.det _) (fun _=>?_)|refine det_bind (q188.det _ _) (fun _=>?_)
theorem edet (a:List AV):Det (en a):=mkEntry_det (fun _:Dens A=>det) a
theorem ground:Ground E tab:=⟨num,mixed,(tab_cons q127.sound (tab_cons q169.sound (tab_cons q170.sound (tab_cons q188.sound (tab_nil _))))),clone,(dtab_cons q127.edet (dtab_cons q169.edet (dtab_cons q170.edet (dtab_cons q188.edet dtab_nil)))),stab⟩
theorem sound:EntrySound E 18 en:=mkSound ground loops (by kernel_rfl) (eq)
end q189
namespace q190
abbrev A:List Ty:=[(.st 16)]
abbrev C:=(cTy (.int .i64))
abbrev T:Type:=Case->(Int->Prop)->Prop
noncomputable def tab:Tab:=[]
def F (c:Case) (K:Int->Prop):Prop:=
 (bif c.side then(K 1)else(K 0))
noncomputable def en:Entry:=mkEntry A C fun x=>F x.1
theorem eqv (c:Case) (K:Int->Prop):apure E tab (fun _=>none) 4 54 [enc (.st 16) c] (ansK C K)=F c K:=by kernel_rfl
theorem eq (x:Dens A) (K:Int->Prop):apure E tab (fun _=>none) 4 54 (encA A x) (ansK C K)=F x.1 K:=eqv  x.1 K
theorem loops:LoopsOk E tab (fun _=>none) 4 54:=loops_none _ _ _ _
theorem det (c:Case):Det (F c):=by
 unfold F
 repeat' with_reducible first|exact det_ret _|refine det_cond _ ?_ ?_
theorem edet (a:List AV):Det (en a):=mkEntry_det (fun x:Dens A=>det x.1) a
theorem ground:Ground E tab:=⟨num,mixed,(tab_nil _),clone,dtab_nil,stab⟩
theorem sound:EntrySound E 54 en:=mkSound ground loops (by kernel_rfl) (eq)
end q190
namespace q191
abbrev A:List Ty:=[(.st 16)]
abbrev C:=(cTwo (.st 13) .bool)
abbrev T:Type:=Case->((Node×Bool)->Prop)->Prop
noncomputable def tv (f0:q127.T) (f1:q190.T):Tab:=[(27,mkEntry q127.A q127.C fun x=>f0 x.1 x.2.1),(54,mkEntry q190.A q190.C fun x=>f1 x.1)]
noncomputable def tab:Tab:=tv q127.F q190.F
def FV (f0:q127.T) (f1:q190.T) (c:Case) (K:(Node×Bool)->Prop):Prop:=
 (f0 c.blocks c.l fun r1=>(f1 c fun r2=>(bif(r2==0)then(bif r1.n0.up then(K (r1.n0,(r1.n0.state==0)))else(K (r1.n0,false)))else(bif(r2==1)then(bif r1.n1.up then(K (r1.n1,(r1.n1.state==0)))else(K (r1.n1,false)))else False))))
def F (c:Case) (K:(Node×Bool)->Prop):Prop:=FV q127.F q190.F c K
noncomputable def en:Entry:=mkEntry A C fun x=>F x.1
theorem eqv (f0:q127.T) (f1:q190.T) (c:Case) (K:(Node×Bool)->Prop):apure E (tv f0 f1) (fun _=>none) 4 19 [enc (.st 16) c] (ansK C K)=FV f0 f1 c K:=by kernel_rfl
theorem eq (x:Dens A) (K:(Node×Bool)->Prop):apure E tab (fun _=>none) 4 19 (encA A x) (ansK C K)=F x.1 K:=eqv q127.F q190.F x.1 K
theorem loops:LoopsOk E tab (fun _=>none) 4 19:=loops_none _ _ _ _
theorem det (c:Case):Det (F c):=by
 unfold F FV
 repeat' with_reducible first|exact det_ret _|exact det_false|refine det_cond _ ?_ ?_|refine det_bind (q127.det _ _) (fun _=>?_)|refine det_bind (q190.det _) (fun _=>?_)
theorem edet (a:List AV):Det (en a):=mkEntry_det (fun x:Dens A=>det x.1) a
theorem ground:Ground E tab:=⟨num,mixed,(tab_cons q127.sound (tab_cons q190.sound (tab_nil _))),clone,(dtab_cons q127.edet (dtab_cons q190.edet dtab_nil)),stab⟩
theorem sound:EntrySound E 19 en:=mkSound ground loops (by kernel_rfl) (eq)
end q191
namespace q192
abbrev A:List Ty:=[(.st 13),(.int .u64)]
abbrev C:=(cTwo (.st 13) (.slice (.st 11)))
abbrev T:Type:=Node->Int->((Node×(List Outp))->Prop)->Prop
noncomputable def tv (f0:q84.T):Tab:=[(58,mkEntry q84.A q84.C fun x=>f0 x.1 x.2.1)]
noncomputable def tab:Tab:=tv q84.F
def FV (f0:q84.T) (n_0:Node) (session:Int) (K:(Node×(List Outp))->Prop):Prop:=
 (f0 n_0 session fun r1=>(K (r1.1,r1.2)))
def F (n_0:Node) (session:Int) (K:(Node×(List Outp))->Prop):Prop:=FV q84.F n_0 session K
noncomputable def en:Entry:=mkEntry A C fun x=>F x.1 x.2.1
theorem eqv (f0:q84.T) (n_0:Node) (session:Int) (K:(Node×(List Outp))->Prop):apure E (tv f0) (fun _=>none) 4 21 [enc (.st 13) n_0,enc (.int .u64) session] (ansK C K)=FV f0 n_0 session K:=by kernel_rfl
theorem loops:LoopsOk E tab (fun _=>none) 4 21:=loops_none _ _ _ _
theorem det (n_0:Node) (session:Int):Det (F n_0 session):=by
 unfold F FV
 repeat' with_reducible first|exact det_ret _|refine det_bind (q84.det _ _) (fun _=>?_)
theorem edet (a:List AV):Det (en a):=mkEntry_det (fun x:Dens A=>det x.1 x.2.1) a
theorem ground:Ground E tab:=⟨num,mixed,(tab_cons q84.sound (tab_nil _)),clone,(dtab_cons q84.edet dtab_nil),stab⟩
theorem sound:EntrySound E 21 en:=mkSound ground loops (by kernel_rfl) (fun (x:Dens A) K=>eqv q84.F x.1 x.2.1 K)
end q192
namespace q193
abbrev A:List Ty:=[(.slice (.st 11)),(.slice (.st 11))]
abbrev C:=(cTy .bool)
abbrev T:Type:=(List Outp)->(List Outp)->(Bool->Prop)->Prop
noncomputable def tab:Tab:=[]
structure R where
 t4:Bool
def cR (x:R):St:={ fr:=lookL .top [(4,(.bool x.t4))],hs:={ hp:=lookL .dead [],hn:=0 } }
def kR:Keep:={ ks:=[(4,none)],bs:=[],hn:=0 }
structure L0 where
 a:(List Outp)
 b0:(List Outp)
 i:Int
def c0 (x:L0):St:={ fr:=lookL .top [(0,(.sl .any (.st 11) x.a)),(1,(.sl .any (.st 11) x.b0)),(5,(.int .i64 x.i))],hs:={ hp:=lookL .dead [],hn:=0 } }
def kp0:Keep:={ ks:=[(0,none),(1,none),(5,none)],bs:=[],hn:=0 }
def p0 (st:St) (K:L0->Prop):Prop:=gSl .any (.st 11) (st.fr 0) fun a1=>gSl .any (.st 11) (st.fr 1) fun a2=>gInt .i64 (st.fr 5) fun a3=>K ⟨a1,a2,a3⟩
set_option maxHeartbeats 4000000 in
theorem p0_ok (st:St) (K:L0->Prop) (h:p0 st K):∃ x,keepSt kp0 st=c0 x∧K x:=by
 obtain ⟨a1,h0,h⟩:=gSl_elim h
 obtain ⟨a2,h1,h⟩:=gSl_elim h
 obtain ⟨a3,h2,h⟩:=gInt_elim h
 refine⟨_,?_,h⟩
 simp only [keepSt,kp0,List.map,h0,h1,h2]
 rfl
def b0 (rec kx:L0->Prop) (kr:R->Prop) (x:L0):Prop:=
 (bif(decide (x.i < (x.a.length:Int)))then(oget (getI x.a x.i) fun v1=>(oget (getI x.b0 x.i) fun v2=>(bif(!((v1.kind==v2.kind)&&((v1.node==v2.node)&&((v1.id==v2.id)&&((v1.err==v2.err)&&((v1.data==v2.data)&&true))))))then(kr ⟨false⟩)else(rec ⟨x.a,x.b0,(IntKind.i64.wrap (x.i+1))⟩))))else(kx ⟨x.a,x.b0,x.i⟩))
def lt:Nat->Option LSpec
 | 0=>some (mkLoop 0 kp0 kR p0 c0 cR b0)
 | _=>none
def F (a:(List Outp)) (b_1:(List Outp)) (K:Bool->Prop):Prop:=
 (bif((a.length:Int) != (b_1.length:Int))then(K false)else(∃ n,loopB b0 n (fun x3=>(K true)) (fun r4=>(K r4.t4)) ⟨a,b_1,0⟩))
noncomputable def en:Entry:=mkEntry A C fun x=>F x.1 x.2.1
theorem eqv (a:(List Outp)) (b_1:(List Outp)) (K:Bool->Prop):apure E tab lt 4 23 [enc (.slice (.st 11)) a,enc (.slice (.st 11)) b_1] (ansK C K)=F a b_1 K:=by kernel_rfl
theorem l0v (R:St->Prop) (Kx:Nat->St->Prop) (Kr:St->Prop) (x:L0):acode E tab (afun E tab 4) 26 lt ((loopsIn E.P 23).getD 0 (0,.skip)).2 0 (fun s=>R (keepSt kp0 s)) (fun j s=>Kx j (keepSt kp0 s)) (fun s=>Kr (keepSt kR s)) (c0 x)=b0 (fun x=>R (c0 x)) (fun x=>Kx 0 (c0 x)) (fun r=>Kr (cR r)) x:=by kernel_rfl
theorem l0_ok:LSound E tab (afun E tab 4) 26 lt 0 ((loopsIn E.P 23).getD 0 (0,.skip)).2 (mkLoop 0 kp0 kR p0 c0 cR b0):=mkLoop_sound (by decide) (by decide) p0_ok (fun R Kx Kr x=>l0v  R Kx Kr x)
theorem loops:LoopsOk E tab lt 4 23:=loops_of (nt:=26) (ids:=[0]) (by kernel_rfl) (by kernel_rfl) (by
 intro k i hk l hl
 match k,hk with
 | 0,hk=>cases hk;cases hl;exact l0_ok
 | _+1,hk=>exact absurd hk (by simp))
theorem det (a:(List Outp)) (b_1:(List Outp)):Det (F a b_1):=by
 unfold F
 repeat' with_reducible first|exact det_ret _|refine det_cond _ ?_ ?_|refine det_oget _ (fun _=>?_)|refine det_loop (fun _=>?_) (fun _=>?_) (fun _=>?_) _ | unfold b0
theorem edet (a:List AV):Det (en a):=mkEntry_det (fun x:Dens A=>det x.1 x.2.1) a
theorem ground:Ground E tab:=⟨num,mixed,(tab_nil _),clone,dtab_nil,stab⟩
theorem sound:EntrySound E 23 en:=mkSound ground loops (by kernel_rfl) (fun (x:Dens A) K=>eqv  x.1 x.2.1 K)
end q193
namespace q194
abbrev A:List Ty:=[(.st 16),(.int .u64)]
abbrev C:=(cTy .bool)
abbrev T:Type:=Case->Int->(Bool->Prop)->Prop
noncomputable def tv (f0:q189.T) (f1:q167.T) (f2:q191.T) (f3:q169.T) (f4:q192.T) (f5:q166.T) (f6:q193.T):Tab:=[(18,mkEntry q189.A q189.C fun _=>f0),(10,mkEntry q167.A q167.C fun x=>f1 x.1 x.2.1),(19,mkEntry q191.A q191.C fun x=>f2 x.1),(20,mkEntry q169.A q169.C fun x=>f3 x.1 x.2.1),(21,mkEntry q192.A q192.C fun x=>f4 x.1 x.2.1),(22,mkEntry q166.A q166.C fun x=>f5 x.1 x.2.1),(23,mkEntry q193.A q193.C fun x=>f6 x.1 x.2.1)]
noncomputable def tab:Tab:=tv q189.F q167.F q191.F q169.F q192.F q166.F q193.F
def FV (f0:q189.T) (f1:q167.T) (f2:q191.T) (f3:q169.T) (f4:q192.T) (f5:q166.T) (f6:q193.T) (c:Case) (session:Int) (K:Bool->Prop):Prop:=
 (f0 fun r1=>(bif(!r1)then(K false)else(f1 c.l 60 fun r2=>(bif r2 then(K true)else(f2 c fun r3=>(bif(!r3.2)then(K true)else(f3 r3.1 session fun r4=>(f4 r3.1 session fun r5=>(f5 r4.1 r5.1 fun r6=>(bif r6 then(f6 r4.2 r5.2 fun r7=>(K r7))else(K false)))))))))))
def F (c:Case) (session:Int) (K:Bool->Prop):Prop:=FV q189.F q167.F q191.F q169.F q192.F q166.F q193.F c session K
noncomputable def en:Entry:=mkEntry A C fun x=>F x.1 x.2.1
theorem eqv (f0:q189.T) (f1:q167.T) (f2:q191.T) (f3:q169.T) (f4:q192.T) (f5:q166.T) (f6:q193.T) (c:Case) (session:Int) (K:Bool->Prop):apure E (tv f0 f1 f2 f3 f4 f5 f6) (fun _=>none) 4 4 [enc (.st 16) c,enc (.int .u64) session] (ansK C K)=FV f0 f1 f2 f3 f4 f5 f6 c session K:=by kernel_rfl
theorem eq (x:Dens A) (K:Bool->Prop):apure E tab (fun _=>none) 4 4 (encA A x) (ansK C K)=F x.1 x.2.1 K:=eqv q189.F q167.F q191.F q169.F q192.F q166.F q193.F x.1 x.2.1 K
theorem loops:LoopsOk E tab (fun _=>none) 4 4:=loops_none _ _ _ _
theorem det (c:Case) (session:Int):Det (F c session):=by
 unfold F FV
 repeat' with_reducible first|exact det_ret _|refine det_cond _ ?_ ?_|refine det_bind (q189.det) (fun _=>?_)|refine det_bind (q167.det _ _) (fun _=>?_)|refine det_bind (q191.det _) (fun _=>?_)|refine det_bind (q169.det _ _) (fun _=>?_)|refine det_bind (q192.det _ _) (fun _=>?_)|refine det_bind (q166.det _ _) (fun _=>?_)|refine det_bind (q193.det _ _) (fun _=>?_)
theorem edet (a:List AV):Det (en a):=mkEntry_det (fun x:Dens A=>det x.1 x.2.1) a
theorem ground:Ground E tab:=⟨num,mixed,(tab_cons q189.sound (tab_cons q167.sound (tab_cons q191.sound (tab_cons q169.sound (tab_cons q192.sound (tab_cons q166.sound (tab_cons q193.sound (tab_nil _)))))))),clone,(dtab_cons q189.edet (dtab_cons q167.edet (dtab_cons q191.edet (dtab_cons q169.edet (dtab_cons q192.edet (dtab_cons q166.edet (dtab_cons q193.edet dtab_nil))))))),stab⟩
theorem sound:EntrySound E 4 en:=mkSound ground loops (by kernel_rfl) (eq)
end q194
namespace q195
abbrev A:List Ty:=[(.st 13),(.st 4)]
abbrev C:=(cTwo (.st 13) (.slice (.st 11)))
abbrev T:Type:=Node->Hello->((Node×(List Outp))->Prop)->Prop
noncomputable def tv (f0:q110.T):Tab:=[(70,mkEntry q110.A q110.C fun x=>f0 x.1 x.2.1)]
noncomputable def tab:Tab:=tv q110.F
def FV (f0:q110.T) (n_0:Node) (h:Hello) (K:(Node×(List Outp))->Prop):Prop:=
 (f0 n_0 h fun r1=>(K (r1.1,r1.2)))
def F (n_0:Node) (h:Hello) (K:(Node×(List Outp))->Prop):Prop:=FV q110.F n_0 h K
noncomputable def en:Entry:=mkEntry A C fun x=>F x.1 x.2.1
theorem eqv (f0:q110.T) (n_0:Node) (h:Hello) (K:(Node×(List Outp))->Prop):apure E (tv f0) (fun _=>none) 4 26 [enc (.st 13) n_0,enc (.st 4) h] (ansK C K)=FV f0 n_0 h K:=by kernel_rfl
theorem loops:LoopsOk E tab (fun _=>none) 4 26:=loops_none _ _ _ _
theorem det (n_0:Node) (h:Hello):Det (F n_0 h):=by
 unfold F FV
 repeat' with_reducible first|exact det_ret _|refine det_bind (q110.det _ _) (fun _=>?_)
theorem edet (a:List AV):Det (en a):=mkEntry_det (fun x:Dens A=>det x.1 x.2.1) a
theorem ground:Ground E tab:=⟨num,mixed,(tab_cons q110.sound (tab_nil _)),clone,(dtab_cons q110.edet dtab_nil),stab⟩
theorem sound:EntrySound E 26 en:=mkSound ground loops (by kernel_rfl) (fun (x:Dens A) K=>eqv q110.F x.1 x.2.1 K)
end q195
namespace q196
abbrev A:List Ty:=[(.st 16),(.st 4),(.int .u64)]
abbrev C:=(cTy .bool)
abbrev T:Type:=Case->Hello->Int->(Bool->Prop)->Prop
noncomputable def tv (f0:q189.T) (f1:q167.T) (f2:q49.T) (f3:q191.T) (f4:q192.T) (f5:q188.T) (f6:q195.T) (f7:q166.T) (f8:q193.T):Tab:=[(18,mkEntry q189.A q189.C fun _=>f0),(10,mkEntry q167.A q167.C fun x=>f1 x.1 x.2.1),(24,mkEntry q49.A q49.C fun x=>f2 x.1),(19,mkEntry q191.A q191.C fun x=>f3 x.1),(21,mkEntry q192.A q192.C fun x=>f4 x.1 x.2.1),(25,mkEntry q188.A q188.C fun x=>f5 x.1 x.2.1),(26,mkEntry q195.A q195.C fun x=>f6 x.1 x.2.1),(22,mkEntry q166.A q166.C fun x=>f7 x.1 x.2.1),(23,mkEntry q193.A q193.C fun x=>f8 x.1 x.2.1)]
noncomputable def tab:Tab:=tv q189.F q167.F q49.F q191.F q192.F q188.F q195.F q166.F q193.F
def FV (f0:q189.T) (f1:q167.T) (f2:q49.T) (f3:q191.T) (f4:q192.T) (f5:q188.T) (f6:q195.T) (f7:q166.T) (f8:q193.T) (c:Case) (h:Hello) (session:Int) (K:Bool->Prop):Prop:=
 (f0 fun r1=>(bif(!r1)then(K false)else(f1 c.l 60 fun r2=>(bif r2 then(K true)else(f2 h fun r3=>(bif(!r3)then(K true)else(f3 c fun r4=>(bif(!r4.2)then(K true)else(f4 r4.1 session fun r5=>(f5 r5.1 h fun r6=>(f6 r5.1 h fun r7=>(f7 r6.1 r7.1 fun r8=>(bif r8 then(f8 r6.2 r7.2 fun r9=>(K r9))else(K false))))))))))))))
def F (c:Case) (h:Hello) (session:Int) (K:Bool->Prop):Prop:=FV q189.F q167.F q49.F q191.F q192.F q188.F q195.F q166.F q193.F c h session K
noncomputable def en:Entry:=mkEntry A C fun x=>F x.1 x.2.1 x.2.2.1
theorem eqv (f0:q189.T) (f1:q167.T) (f2:q49.T) (f3:q191.T) (f4:q192.T) (f5:q188.T) (f6:q195.T) (f7:q166.T) (f8:q193.T) (c:Case) (h:Hello) (session:Int) (K:Bool->Prop):apure E (tv f0 f1 f2 f3 f4 f5 f6 f7 f8) (fun _=>none) 4 5 [enc (.st 16) c,enc (.st 4) h,enc (.int .u64) session] (ansK C K)=FV f0 f1 f2 f3 f4 f5 f6 f7 f8 c h session K:=by kernel_rfl
theorem eq (x:Dens A) (K:Bool->Prop):apure E tab (fun _=>none) 4 5 (encA A x) (ansK C K)=F x.1 x.2.1 x.2.2.1 K:=eqv q189.F q167.F q49.F q191.F q192.F q188.F q195.F q166.F q193.F x.1 x.2.1 x.2.2.1 K
theorem loops:LoopsOk E tab (fun _=>none) 4 5:=loops_none _ _ _ _
theorem det (c:Case) (h:Hello) (session:Int):Det (F c h session):=by
 unfold F FV
 repeat' with_reducible first|exact det_ret _|refine det_cond _ ?_ ?_|refine det_bind (q189.det) (fun _=>?_)|refine det_bind (q167.det _ _) (fun _=>?_)|refine det_bind (q49.det _) (fun _=>?_)|refine det_bind (q191.det _) (fun _=>?_)|refine det_bind (q192.det _ _) (fun _=>?_)|refine det_bind (q188.det _ _) (fun _=>?_)|refine det_bind (q195.det _ _) (fun _=>?_)|refine det_bind (q166.det _ _) (fun _=>?_)|refine det_bind (q193.det _ _) (fun _=>?_)
theorem edet (a:List AV):Det (en a):=mkEntry_det (fun x:Dens A=>det x.1 x.2.1 x.2.2.1) a
theorem ground:Ground E tab:=⟨num,mixed,(tab_cons q189.sound (tab_cons q167.sound (tab_cons q49.sound (tab_cons q191.sound (tab_cons q192.sound (tab_cons q188.sound (tab_cons q195.sound (tab_cons q166.sound (tab_cons q193.sound (tab_nil _)))))))))),clone,(dtab_cons q189.edet (dtab_cons q167.edet (dtab_cons q49.edet (dtab_cons q191.edet (dtab_cons q192.edet (dtab_cons q188.edet (dtab_cons q195.edet (dtab_cons q166.edet (dtab_cons q193.edet dtab_nil))))))))),stab⟩
theorem sound:EntrySound E 5 en:=mkSound ground loops (by kernel_rfl) (eq)
end q196
namespace q197
abbrev A:List Ty:=[(.st 16),(.int .u64)]
abbrev C:=(cTy .bool)
abbrev T:Type:=Case->Int->(Bool->Prop)->Prop
noncomputable def tv (f0:q189.T) (f1:q167.T) (f2:q127.T) (f3:q192.T) (f4:q170.T) (f5:q188.T) (f6:q99.T) (f7:q166.T):Tab:=[(18,mkEntry q189.A q189.C fun _=>f0),(10,mkEntry q167.A q167.C fun x=>f1 x.1 x.2.1),(27,mkEntry q127.A q127.C fun x=>f2 x.1 x.2.1),(21,mkEntry q192.A q192.C fun x=>f3 x.1 x.2.1),(28,mkEntry q170.A q170.C fun x=>f4 x.1),(25,mkEntry q188.A q188.C fun x=>f5 x.1 x.2.1),(29,mkEntry q99.A q99.C fun x=>f6 x.1 x.2.1),(22,mkEntry q166.A q166.C fun x=>f7 x.1 x.2.1)]
noncomputable def tab:Tab:=tv q189.F q167.F q127.F q192.F q170.F q188.F q99.F q166.F
def FV (f0:q189.T) (f1:q167.T) (f2:q127.T) (f3:q192.T) (f4:q170.T) (f5:q188.T) (f6:q99.T) (f7:q166.T) (c:Case) (session:Int) (K:Bool->Prop):Prop:=
 (f0 fun r1=>(bif(!r1)then(K false)else(f1 c.l 60 fun r2=>(bif r2 then(K true)else(f2 c.blocks c.l fun r3=>(bif(!r3.n0.up)then(K true)else(bif(!r3.n1.up)then(K true)else(bif(r3.n0.state != 0)then(K true)else(bif(r3.n1.state != 0)then(K true)else(bif(decide (r3.n0.store.disk.fuse > 0))then(K true)else(bif(decide (r3.n1.store.disk.fuse > 0))then(K true)else(f3 r3.n0 session fun r4=>(f3 r3.n1 session fun r5=>(f4 r5.1 fun r6=>(f5 r4.1 r6 fun r7=>(f4 r4.1 fun r8=>(f5 r5.1 r8 fun r9=>(f4 r4.1 fun r10=>(f4 r5.1 fun r11=>(f6 r10 r11 fun r12=>(bif(r12.kind==4)then(bif((r7.2.length:Int)==1)then(bif((r9.2.length:Int)==1)then(oget (getI r7.2 0) fun v13=>(bif((v13.kind==3)&&((v13.node==0)&&((v13.id==0)&&((v13.err==0)&&((v13.data==([]:Str))&&true)))))then(oget (getI r9.2 0) fun v14=>(bif((v14.kind==3)&&((v14.node==1)&&((v14.id==0)&&((v14.err==0)&&((v14.data==([]:Str))&&true)))))then(f7 r7.1 r4.1 fun r15=>(bif r15 then(f7 r9.1 r5.1 fun r16=>(K r16))else(K false)))else(K false)))else(K false)))else(K false))else(K false))else(bif(r12.kind==1)then(bif(r7.1.state==2)then(bif(r9.1.state==2)then(bif((IntKind.i64.wrap ((r7.2.length:Int)+(r9.2.length:Int)))==0)then(bif(r7.1.store.sup.vector.current==r9.1.store.sup.vector.current)then(K ((IntKind.u32.wrap (r7.1.store.mask+r9.1.store.mask))==0))else(K false))else(K false))else(K false))else(K false))else(bif(r12.source==0)then(bif(r7.1.state==3)then(bif(r9.1.state==4)then(bif(r7.1.store.mask==r9.1.store.mask)then(K ((r7.1.store.sup.blocks==r4.1.store.sup.blocks)&&(((r7.1.store.sup.vector.current==r4.1.store.sup.vector.current)&&((r7.1.store.sup.vector.bitmap==r4.1.store.sup.vector.bitmap)&&(((r7.1.store.sup.vector.old0==r4.1.store.sup.vector.old0)&&((r7.1.store.sup.vector.old1==r4.1.store.sup.vector.old1)&&true))&&true)))&&((r7.1.store.sup.inc==r4.1.store.sup.inc)&&((r7.1.store.sup.pri==r4.1.store.sup.pri)&&((r7.1.store.sup.dis==r4.1.store.sup.dis)&&true))))))else(K false))else(K false))else(K false))else(bif(r7.1.state==4)then(bif(r9.1.state==3)then(bif(r7.1.store.mask==r9.1.store.mask)then(K ((r9.1.store.sup.blocks==r5.1.store.sup.blocks)&&(((r9.1.store.sup.vector.current==r5.1.store.sup.vector.current)&&((r9.1.store.sup.vector.bitmap==r5.1.store.sup.vector.bitmap)&&(((r9.1.store.sup.vector.old0==r5.1.store.sup.vector.old0)&&((r9.1.store.sup.vector.old1==r5.1.store.sup.vector.old1)&&true))&&true)))&&((r9.1.store.sup.inc==r5.1.store.sup.inc)&&((r9.1.store.sup.pri==r5.1.store.sup.pri)&&((r9.1.store.sup.dis==r5.1.store.sup.dis)&&true))))))else(K false))else(K false))else(K false)))))))))))))))))))))))))
def F (c:Case) (session:Int) (K:Bool->Prop):Prop:=FV q189.F q167.F q127.F q192.F q170.F q188.F q99.F q166.F c session K
noncomputable def en:Entry:=mkEntry A C fun x=>F x.1 x.2.1
theorem eqv (f0:q189.T) (f1:q167.T) (f2:q127.T) (f3:q192.T) (f4:q170.T) (f5:q188.T) (f6:q99.T) (f7:q166.T) (c:Case) (session:Int) (K:Bool->Prop):apure E (tv f0 f1 f2 f3 f4 f5 f6 f7) (fun _=>none) 4 6 [enc (.st 16) c,enc (.int .u64) session] (ansK C K)=FV f0 f1 f2 f3 f4 f5 f6 f7 c session K:=by kernel_rfl
theorem eq (x:Dens A) (K:Bool->Prop):apure E tab (fun _=>none) 4 6 (encA A x) (ansK C K)=F x.1 x.2.1 K:=eqv q189.F q167.F q127.F q192.F q170.F q188.F q99.F q166.F x.1 x.2.1 K
theorem loops:LoopsOk E tab (fun _=>none) 4 6:=loops_none _ _ _ _
theorem det (c:Case) (session:Int):Det (F c session):=by
 unfold F FV
 repeat' with_reducible first|exact det_ret _|refine det_cond _ ?_ ?_|refine det_oget _ (fun _=>?_)|refine det_bind (q189.det) (fun _=>?_)|refine det_bind (q167.det _ _) (fun _=>?_)|refine det_bind (q127.det _ _) (fun _=>?_)|refine det_bind (q192.det _ _) (fun _=>?_)|refine det_bind (q170.det _) (fun _=>?_)|refine det_bind (q188.det _ _) (fun _=>?_)|refine det_bind (q99.det _ _) (fun _=>?_)|refine det_bind (q166.det _ _) (fun _=>?_)
theorem edet (a:List AV):Det (en a):=mkEntry_det (fun x:Dens A=>det x.1 x.2.1) a
theorem ground:Ground E tab:=⟨num,mixed,(tab_cons q189.sound (tab_cons q167.sound (tab_cons q127.sound (tab_cons q192.sound (tab_cons q170.sound (tab_cons q188.sound (tab_cons q99.sound (tab_cons q166.sound (tab_nil _))))))))),clone,(dtab_cons q189.edet (dtab_cons q167.edet (dtab_cons q127.edet (dtab_cons q192.edet (dtab_cons q170.edet (dtab_cons q188.edet (dtab_cons q99.edet (dtab_cons q166.edet dtab_nil)))))))),stab⟩
theorem sound:EntrySound E 6 en:=mkSound ground loops (by kernel_rfl) (eq)
end q197
namespace q198
abbrev A:List Ty:=[(.st 16),(.int .u64)]
abbrev C:=(cTy .bool)
abbrev T:Type:=Case->Int->(Bool->Prop)->Prop
noncomputable def tv (f0:q189.T) (f1:q167.T) (f2:q191.T) (f3:q169.T) (f4:q93.T) (f5:q170.T) (f6:q166.T):Tab:=[(18,mkEntry q189.A q189.C fun _=>f0),(10,mkEntry q167.A q167.C fun x=>f1 x.1 x.2.1),(19,mkEntry q191.A q191.C fun x=>f2 x.1),(20,mkEntry q169.A q169.C fun x=>f3 x.1 x.2.1),(30,mkEntry q93.A q93.C fun x=>f4 x.1 x.2.1),(28,mkEntry q170.A q170.C fun x=>f5 x.1),(22,mkEntry q166.A q166.C fun x=>f6 x.1 x.2.1)]
noncomputable def tab:Tab:=tv q189.F q167.F q191.F q169.F q93.F q170.F q166.F
def FV (f0:q189.T) (f1:q167.T) (f2:q191.T) (f3:q169.T) (f4:q93.T) (f5:q170.T) (f6:q166.T) (c:Case) (session:Int) (K:Bool->Prop):Prop:=
 (f0 fun r1=>(bif(!r1)then(K false)else(f1 c.l 60 fun r2=>(bif r2 then(K true)else(f2 c fun r3=>(bif(!r3.2)then(K true)else(f3 r3.1 session fun r4=>(bif((r4.2.length:Int) != 1)then(K false)else(oget (getI r4.2 0) fun v5=>(bif(v5.kind != 1)then(K false)else(oget (getI r4.2 0) fun v6=>(bif(v6.node != r3.1.id)then(K false)else(oget (getI r4.2 0) fun v7=>(f4 v7.data session fun r8=>(bif(r8.2==0)then(bif(r8.1.kind==1)then(f5 r3.1 fun r9=>(bif((r8.1.hello.blocks==r9.blocks)&&(((r8.1.hello.vector.current==r9.vector.current)&&((r8.1.hello.vector.bitmap==r9.vector.bitmap)&&(((r8.1.hello.vector.old0==r9.vector.old0)&&((r8.1.hello.vector.old1==r9.vector.old1)&&true))&&true)))&&((r8.1.hello.inc==r9.inc)&&((r8.1.hello.was==r9.was)&&((r8.1.hello.dis==r9.dis)&&((r8.1.hello.pri==r9.pri)&&((r8.1.hello.mask==r9.mask)&&true)))))))then(f6 (⟨r4.1.id,r4.1.up,r4.1.store,r4.1.primary,r3.1.state,r3.1.session,r4.1.peer,r4.1.peerPri,r4.1.req,r4.1.asking,r4.1.askId,r4.1.wanted,r3.1.minted,r4.1.draws,r4.1.mints⟩:Node) r3.1 fun r10=>(bif r10 then(bif(r4.1.state==1)then(bif(r4.1.session==session)then(K (!r4.1.minted))else(K false))else(K false))else(K false)))else(K false)))else(K false))else(K false))))))))))))))))
def F (c:Case) (session:Int) (K:Bool->Prop):Prop:=FV q189.F q167.F q191.F q169.F q93.F q170.F q166.F c session K
noncomputable def en:Entry:=mkEntry A C fun x=>F x.1 x.2.1
theorem eqv (f0:q189.T) (f1:q167.T) (f2:q191.T) (f3:q169.T) (f4:q93.T) (f5:q170.T) (f6:q166.T) (c:Case) (session:Int) (K:Bool->Prop):apure E (tv f0 f1 f2 f3 f4 f5 f6) (fun _=>none) 4 7 [enc (.st 16) c,enc (.int .u64) session] (ansK C K)=FV f0 f1 f2 f3 f4 f5 f6 c session K:=by kernel_rfl
theorem eq (x:Dens A) (K:Bool->Prop):apure E tab (fun _=>none) 4 7 (encA A x) (ansK C K)=F x.1 x.2.1 K:=eqv q189.F q167.F q191.F q169.F q93.F q170.F q166.F x.1 x.2.1 K
theorem loops:LoopsOk E tab (fun _=>none) 4 7:=loops_none _ _ _ _
theorem det (c:Case) (session:Int):Det (F c session):=by
 unfold F FV
 repeat' with_reducible first|exact det_ret _|refine det_cond _ ?_ ?_|refine det_oget _ (fun _=>?_)|refine det_bind (q189.det) (fun _=>?_)|refine det_bind (q167.det _ _) (fun _=>?_)|refine det_bind (q191.det _) (fun _=>?_)|refine det_bind (q169.det _ _) (fun _=>?_)|refine det_bind (q93.det _ _) (fun _=>?_)|refine det_bind (q170.det _) (fun _=>?_)|refine det_bind (q166.det _ _) (fun _=>?_)
theorem edet (a:List AV):Det (en a):=mkEntry_det (fun x:Dens A=>det x.1 x.2.1) a
theorem ground:Ground E tab:=⟨num,mixed,(tab_cons q189.sound (tab_cons q167.sound (tab_cons q191.sound (tab_cons q169.sound (tab_cons q93.sound (tab_cons q170.sound (tab_cons q166.sound (tab_nil _)))))))),clone,(dtab_cons q189.edet (dtab_cons q167.edet (dtab_cons q191.edet (dtab_cons q169.edet (dtab_cons q93.edet (dtab_cons q170.edet (dtab_cons q166.edet dtab_nil))))))),stab⟩
theorem sound:EntrySound E 7 en:=mkSound ground loops (by kernel_rfl) (eq)
end q198
end Gm
