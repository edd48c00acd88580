/- Printed by a program (gen.py): the functions' answers, and that they are so. -/
import Derived.Test.YtlaijgoahmigmaaGreatDoorGdT6
set_option linter.unusedVariables false
set_option maxRecDepth 100000
namespace Gm
open Go Go.Proofs
namespace q165
abbrev A:List Ty:=[(.slice (.st 10)),(.slice (.st 10))]
abbrev C:=(cTy .bool)
abbrev T:Type:=(List Mint)->(List Mint)->(Bool->Prop)->Prop
noncomputable def tab:Tab:=[]
structure R where
 t4:Bool
def cR (x:R):St:={ fr:=lookL .top [(4,(.bool x.t4))],hs:={ hp:=lookL .dead [],hn:=0 } }
def kR:Keep:={ ks:=[(4,none)],bs:=[],hn:=0 }
structure L0 where
 a:(List Mint)
 b0:(List Mint)
 i:Int
def c0 (x:L0):St:={ fr:=lookL .top [(0,(.sl .any (.st 10) x.a)),(1,(.sl .any (.st 10) x.b0)),(5,(.int .i64 x.i))],hs:={ hp:=lookL .dead [],hn:=0 } }
def kp0:Keep:={ ks:=[(0,none),(1,none),(5,none)],bs:=[],hn:=0 }
def p0 (st:St) (K:L0->Prop):Prop:=gSl .any (.st 10) (st.fr 0) fun a1=>gSl .any (.st 10) (st.fr 1) fun a2=>gInt .i64 (st.fr 5) fun a3=>K ⟨a1,a2,a3⟩
set_option maxHeartbeats 4000000 in
theorem p0_ok (st:St) (K:L0->Prop) (h:p0 st K):∃ x,keepSt kp0 st=c0 x∧K x:=by
 obtain ⟨a1,h0,h⟩:=gSl_elim h
 obtain ⟨a2,h1,h⟩:=gSl_elim h
 obtain ⟨a3,h2,h⟩:=gInt_elim h
 refine⟨_,?_,h⟩
 simp only [keepSt,kp0,List.map,h0,h1,h2]
 rfl
def b0 (rec kx:L0->Prop) (kr:R->Prop) (x:L0):Prop:=
 (bif(decide (x.i < (x.a.length:Int)))then(oget (getI x.a x.i) fun v1=>(oget (getI x.b0 x.i) fun v2=>(bif(!((v1.gen==v2.gen)&&((v1.parent==v2.parent)&&((v1.node==v2.node)&&true))))then(kr ⟨false⟩)else(rec ⟨x.a,x.b0,(IntKind.i64.wrap (x.i+1))⟩))))else(kx ⟨x.a,x.b0,x.i⟩))
def lt:Nat->Option LSpec
 | 0=>some (mkLoop 0 kp0 kR p0 c0 cR b0)
 | _=>none
def F (a:(List Mint)) (b_1:(List Mint)) (K:Bool->Prop):Prop:=
 (bif((a.length:Int) != (b_1.length:Int))then(K false)else(∃ n,loopB b0 n (fun x3=>(K true)) (fun r4=>(K r4.t4)) ⟨a,b_1,0⟩))
noncomputable def en:Entry:=mkEntry A C fun x=>F x.1 x.2.1
theorem eqv (a:(List Mint)) (b_1:(List Mint)) (K:Bool->Prop):apure E tab lt 4 61 [enc (.slice (.st 10)) a,enc (.slice (.st 10)) b_1] (ansK C K)=F a b_1 K:=by kernel_rfl
theorem l0v (R:St->Prop) (Kx:Nat->St->Prop) (Kr:St->Prop) (x:L0):acode E tab (afun E tab 4) 26 lt ((loopsIn E.P 61).getD 0 (0,.skip)).2 0 (fun s=>R (keepSt kp0 s)) (fun j s=>Kx j (keepSt kp0 s)) (fun s=>Kr (keepSt kR s)) (c0 x)=b0 (fun x=>R (c0 x)) (fun x=>Kx 0 (c0 x)) (fun r=>Kr (cR r)) x:=by kernel_rfl
theorem l0_ok:LSound E tab (afun E tab 4) 26 lt 0 ((loopsIn E.P 61).getD 0 (0,.skip)).2 (mkLoop 0 kp0 kR p0 c0 cR b0):=mkLoop_sound (by decide) (by decide) p0_ok (fun R Kx Kr x=>l0v  R Kx Kr x)
theorem loops:LoopsOk E tab lt 4 61:=loops_of (nt:=26) (ids:=[0]) (by kernel_rfl) (by kernel_rfl) (by
 intro k i hk l hl
 match k,hk with
 | 0,hk=>cases hk;cases hl;exact l0_ok
 | _+1,hk=>exact absurd hk (by simp))
theorem det (a:(List Mint)) (b_1:(List Mint)):Det (F a b_1):=by
 unfold F
 repeat' with_reducible first|exact det_ret _|refine det_cond _ ?_ ?_|refine det_oget _ (fun _=>?_)|refine det_loop (fun _=>?_) (fun _=>?_) (fun _=>?_) _ | unfold b0
theorem edet (a:List AV):Det (en a):=mkEntry_det (fun x:Dens A=>det x.1 x.2.1) a
theorem ground:Ground E tab:=⟨num,mixed,(tab_nil _),clone,dtab_nil,stab⟩
theorem sound:EntrySound E 61 en:=mkSound ground loops (by kernel_rfl) (fun (x:Dens A) K=>eqv  x.1 x.2.1 K)
end q165
namespace q166
abbrev A:List Ty:=[(.st 13),(.st 13)]
abbrev C:=(cTy .bool)
abbrev T:Type:=Node->Node->(Bool->Prop)->Prop
noncomputable def tv (f0:q163.T) (f1:q164.T) (f2:q165.T):Tab:=[(59,mkEntry q163.A q163.C fun x=>f0 x.1 x.2.1),(60,mkEntry q164.A q164.C fun x=>f1 x.1 x.2.1),(61,mkEntry q165.A q165.C fun x=>f2 x.1 x.2.1)]
noncomputable def tab:Tab:=tv q163.F q164.F q165.F
def FV (f0:q163.T) (f1:q164.T) (f2:q165.T) (a:Node) (b_1:Node) (K:Bool->Prop):Prop:=
 (f0 a.store b_1.store fun r1=>(bif(!r1)then(K false)else(f1 a.draws b_1.draws fun r2=>(bif(!r2)then(K false)else(f2 a.mints b_1.mints fun r3=>(bif(!r3)then(K false)else(bif(a.id==b_1.id)then(bif(a.up==b_1.up)then(bif(a.primary==b_1.primary)then(bif(a.state==b_1.state)then(bif(a.session==b_1.session)then(bif((a.peer.blocks==b_1.peer.blocks)&&(((a.peer.vector.current==b_1.peer.vector.current)&&((a.peer.vector.bitmap==b_1.peer.vector.bitmap)&&(((a.peer.vector.old0==b_1.peer.vector.old0)&&((a.peer.vector.old1==b_1.peer.vector.old1)&&true))&&true)))&&((a.peer.inc==b_1.peer.inc)&&((a.peer.was==b_1.peer.was)&&((a.peer.dis==b_1.peer.dis)&&((a.peer.pri==b_1.peer.pri)&&((a.peer.mask==b_1.peer.mask)&&true)))))))then(bif(a.peerPri==b_1.peerPri)then(bif((a.req.on==b_1.req.on)&&((a.req.id==b_1.req.id)&&((a.req.block==b_1.req.block)&&((a.req.data==b_1.req.data)&&true))))then(bif(a.asking==b_1.asking)then(bif(a.askId==b_1.askId)then(bif(a.wanted==b_1.wanted)then(K (a.minted==b_1.minted))else(K false))else(K false))else(K false))else(K false))else(K false))else(K false))else(K false))else(K false))else(K false))else(K false))else(K false))))))))
def F (a:Node) (b_1:Node) (K:Bool->Prop):Prop:=FV q163.F q164.F q165.F a b_1 K
noncomputable def en:Entry:=mkEntry A C fun x=>F x.1 x.2.1
theorem eqv (f0:q163.T) (f1:q164.T) (f2:q165.T) (a:Node) (b_1:Node) (K:Bool->Prop):apure E (tv f0 f1 f2) (fun _=>none) 4 22 [enc (.st 13) a,enc (.st 13) b_1] (ansK C K)=FV f0 f1 f2 a b_1 K:=by kernel_rfl
theorem loops:LoopsOk E tab (fun _=>none) 4 22:=loops_none _ _ _ _
theorem det (a:Node) (b_1:Node):Det (F a b_1):=by
 unfold F FV
 repeat' with_reducible first|exact det_ret _|refine det_cond _ ?_ ?_|refine det_bind (q163.det _ _) (fun _=>?_)|refine det_bind (q164.det _ _) (fun _=>?_)|refine det_bind (q165.det _ _) (fun _=>?_)
theorem edet (a:List AV):Det (en a):=mkEntry_det (fun x:Dens A=>det x.1 x.2.1) a
theorem ground:Ground E tab:=⟨num,mixed,(tab_cons q163.sound (tab_cons q164.sound (tab_cons q165.sound (tab_nil _)))),clone,(dtab_cons q163.edet (dtab_cons q164.edet (dtab_cons q165.edet dtab_nil))),stab⟩
theorem sound:EntrySound E 22 en:=mkSound ground loops (by kernel_rfl) (fun (x:Dens A) K=>eqv q163.F q164.F q165.F x.1 x.2.1 K)
end q166
namespace q167
abbrev A:List Ty:=[(.slice (.st 12)),(.int .i64)]
abbrev C:=(cTy .bool)
abbrev T:Type:=(List Event)->Int->(Bool->Prop)->Prop
noncomputable def tab:Tab:=[]
structure R where
 t4:Bool
def cR (x:R):St:={ fr:=lookL .top [(4,(.bool x.t4))],hs:={ hp:=lookL .dead [],hn:=0 } }
def kR:Keep:={ ks:=[(4,none)],bs:=[],hn:=0 }
structure L0 where
 l:(List Event)
 i:Int
def c0 (x:L0):St:={ fr:=lookL .top [(0,(.sl .any (.st 12) x.l)),(5,(.int .i64 x.i))],hs:={ hp:=lookL .dead [],hn:=0 } }
def kp0:Keep:={ ks:=[(0,none),(5,none)],bs:=[],hn:=0 }
def p0 (st:St) (K:L0->Prop):Prop:=gSl .any (.st 12) (st.fr 0) fun a1=>gInt .i64 (st.fr 5) fun a2=>K ⟨a1,a2⟩
set_option maxHeartbeats 4000000 in
theorem p0_ok (st:St) (K:L0->Prop) (h:p0 st K):∃ x,keepSt kp0 st=c0 x∧K x:=by
 obtain ⟨a1,h0,h⟩:=gSl_elim h
 obtain ⟨a2,h1,h⟩:=gInt_elim h
 refine⟨_,?_,h⟩
 simp only [keepSt,kp0,List.map,h0,h1]
 rfl
def b0 (rec kx:L0->Prop) (kr:R->Prop) (x:L0):Prop:=
 (bif(decide (x.i < (x.l.length:Int)))then(oget (getI x.l x.i) fun v1=>(bif(decide ((v1.data.length:Int) > 300))then(kr ⟨true⟩)else(oget (getI x.l x.i) fun v2=>(bif(decide ((v2.keeps.length:Int) > 100))then(kr ⟨true⟩)else(rec ⟨x.l,(IntKind.i64.wrap (x.i+1))⟩)))))else(kx ⟨x.l,x.i⟩))
def lt:Nat->Option LSpec
 | 0=>some (mkLoop 0 kp0 kR p0 c0 cR b0)
 | _=>none
def F (l:(List Event)) (most:Int) (K:Bool->Prop):Prop:=
 (bif(decide ((l.length:Int) > most))then(K true)else(∃ n,loopB b0 n (fun x3=>(K false)) (fun r4=>(K r4.t4)) ⟨l,0⟩))
noncomputable def en:Entry:=mkEntry A C fun x=>F x.1 x.2.1
theorem eqv (l:(List Event)) (most:Int) (K:Bool->Prop):apure E tab lt 4 10 [enc (.slice (.st 12)) l,enc (.int .i64) most] (ansK C K)=F l most K:=by kernel_rfl
theorem l0v (R:St->Prop) (Kx:Nat->St->Prop) (Kr:St->Prop) (x:L0):acode E tab (afun E tab 4) 32 lt ((loopsIn E.P 10).getD 0 (0,.skip)).2 0 (fun s=>R (keepSt kp0 s)) (fun j s=>Kx j (keepSt kp0 s)) (fun s=>Kr (keepSt kR s)) (c0 x)=b0 (fun x=>R (c0 x)) (fun x=>Kx 0 (c0 x)) (fun r=>Kr (cR r)) x:=by kernel_rfl
theorem l0_ok:LSound E tab (afun E tab 4) 32 lt 0 ((loopsIn E.P 10).getD 0 (0,.skip)).2 (mkLoop 0 kp0 kR p0 c0 cR b0):=mkLoop_sound (by decide) (by decide) p0_ok (fun R Kx Kr x=>l0v  R Kx Kr x)
theorem loops:LoopsOk E tab lt 4 10:=loops_of (nt:=32) (ids:=[0]) (by kernel_rfl) (by kernel_rfl) (by
 intro k i hk l hl
 match k,hk with
 | 0,hk=>cases hk;cases hl;exact l0_ok
 | _+1,hk=>exact absurd hk (by simp))
theorem det (l:(List Event)) (most:Int):Det (F l most):=by
 unfold F
 repeat' with_reducible first|exact det_ret _|refine det_cond _ ?_ ?_|refine det_oget _ (fun _=>?_)|refine det_loop (fun _=>?_) (fun _=>?_) (fun _=>?_) _ | unfold b0
theorem edet (a:List AV):Det (en a):=mkEntry_det (fun x:Dens A=>det x.1 x.2.1) a
theorem ground:Ground E tab:=⟨num,mixed,(tab_nil _),clone,dtab_nil,stab⟩
theorem sound:EntrySound E 10 en:=mkSound ground loops (by kernel_rfl) (fun (x:Dens A) K=>eqv  x.1 x.2.1 K)
end q167
namespace q168
abbrev A:List Ty:=[(.st 3),.bool,(.int .u32)]
abbrev C:=(cTy (.st 4))
abbrev T:Type:=Super->Bool->Int->(Hello->Prop)->Prop
noncomputable def tab:Tab:=[]
def F (s:Super) (primary:Bool) (m:Int) (K:Hello->Prop):Prop:=
 (bif s.pri then(K (⟨s.blocks,s.vector,s.inc,(!primary),s.dis,primary,m⟩:Hello))else(K (⟨s.blocks,s.vector,s.inc,false,s.dis,primary,m⟩:Hello)))
noncomputable def en:Entry:=mkEntry A C fun x=>F x.1 x.2.1 x.2.2.1
theorem eqv (s:Super) (primary:Bool) (m:Int) (K:Hello->Prop):apure E tab (fun _=>none) 4 107 [enc (.st 3) s,enc .bool primary,enc (.int .u32) m] (ansK C K)=F s primary m K:=by kernel_rfl
theorem loops:LoopsOk E tab (fun _=>none) 4 107:=loops_none _ _ _ _
theorem det (s:Super) (primary:Bool) (m:Int):Det (F s primary m):=by
 unfold F
 repeat' with_reducible first|exact det_ret _|refine det_cond _ ?_ ?_
theorem edet (a:List AV):Det (en a):=mkEntry_det (fun x:Dens A=>det x.1 x.2.1 x.2.2.1) a
theorem ground:Ground E tab:=⟨num,mixed,(tab_nil _),clone,dtab_nil,stab⟩
theorem sound:EntrySound E 107 en:=mkSound ground loops (by kernel_rfl) (fun (x:Dens A) K=>eqv  x.1 x.2.1 x.2.2.1 K)
end q168
namespace q169
abbrev A:List Ty:=[(.st 13),(.int .u64)]
abbrev C:=(cTwo (.st 13) (.slice (.st 11)))
abbrev T:Type:=Node->Int->((Node×(List Outp))->Prop)->Prop
noncomputable def tv (f0:q168.T) (f1:q144.T):Tab:=[(107,mkEntry q168.A q168.C fun x=>f0 x.1 x.2.1 x.2.2.1),(106,mkEntry q144.A q144.C fun x=>f1 x.1)]
noncomputable def tab:Tab:=tv q168.F q144.F
def FV (f0:q168.T) (f1:q144.T) (n_0:Node) (session:Int) (K:(Node×(List Outp))->Prop):Prop:=
 (f0 n_0.store.sup n_0.primary n_0.store.mask fun r1=>(f1 (⟨1,session,r1,0,([]:Str)⟩:Packet) fun r2=>(bif(decide (([(⟨1,n_0.id,0,0,r2.1⟩:Outp)]:List Outp).length * 48≤room))then(K ((⟨n_0.id,n_0.up,n_0.store,n_0.primary,1,session,n_0.peer,n_0.peerPri,n_0.req,n_0.asking,n_0.askId,n_0.wanted,false,n_0.draws,n_0.mints⟩:Node),([(⟨1,n_0.id,0,0,r2.1⟩:Outp)]:List Outp)))else False)))
def F (n_0:Node) (session:Int) (K:(Node×(List Outp))->Prop):Prop:=FV q168.F q144.F n_0 session K
noncomputable def en:Entry:=mkEntry A C fun x=>F x.1 x.2.1
theorem eqv (f0:q168.T) (f1:q144.T) (n_0:Node) (session:Int) (K:(Node×(List Outp))->Prop):apure E (tv f0 f1) (fun _=>none) 4 20 [enc (.st 13) n_0,enc (.int .u64) session] (ansK C K)=FV f0 f1 n_0 session K:=by kernel_rfl
theorem loops:LoopsOk E tab (fun _=>none) 4 20:=loops_none _ _ _ _
theorem det (n_0:Node) (session:Int):Det (F n_0 session):=by
 unfold F FV
 repeat' with_reducible first|exact det_ret _|exact det_false|refine det_cond _ ?_ ?_|refine det_bind (q168.det _ _ _) (fun _=>?_)|refine det_bind (q144.det _) (fun _=>?_)
theorem edet (a:List AV):Det (en a):=mkEntry_det (fun x:Dens A=>det x.1 x.2.1) a
theorem ground:Ground E tab:=⟨num,mixed,(tab_cons q168.sound (tab_cons q144.sound (tab_nil _))),clone,(dtab_cons q168.edet (dtab_cons q144.edet dtab_nil)),stab⟩
theorem sound:EntrySound E 20 en:=mkSound ground loops (by kernel_rfl) (fun (x:Dens A) K=>eqv q168.F q144.F x.1 x.2.1 K)
end q169
namespace q170
abbrev A:List Ty:=[(.st 13)]
abbrev C:=(cTy (.st 4))
abbrev T:Type:=Node->(Hello->Prop)->Prop
noncomputable def tv (f0:q83.T):Tab:=[(73,mkEntry q83.A q83.C fun x=>f0 x.1)]
noncomputable def tab:Tab:=tv q83.F
def FV (f0:q83.T) (n_0:Node) (K:Hello->Prop):Prop:=
 (f0 n_0 fun r1=>(K r1))
def F (n_0:Node) (K:Hello->Prop):Prop:=FV q83.F n_0 K
noncomputable def en:Entry:=mkEntry A C fun x=>F x.1
theorem eqv (f0:q83.T) (n_0:Node) (K:Hello->Prop):apure E (tv f0) (fun _=>none) 4 28 [enc (.st 13) n_0] (ansK C K)=FV f0 n_0 K:=by kernel_rfl
theorem loops:LoopsOk E tab (fun _=>none) 4 28:=loops_none _ _ _ _
theorem det (n_0:Node):Det (F n_0):=by
 unfold F FV
 repeat' with_reducible first|exact det_ret _|refine det_bind (q83.det _) (fun _=>?_)
theorem edet (a:List AV):Det (en a):=mkEntry_det (fun x:Dens A=>det x.1) a
theorem ground:Ground E tab:=⟨num,mixed,(tab_cons q83.sound (tab_nil _)),clone,(dtab_cons q83.edet dtab_nil),stab⟩
theorem sound:EntrySound E 28 en:=mkSound ground loops (by kernel_rfl) (fun (x:Dens A) K=>eqv q83.F x.1 K)
end q170
namespace q171
abbrev A:List Ty:=[]
abbrev C:=(cTy (.st 17))
abbrev T:Type:=(Verdict->Prop)->Prop
noncomputable def tab:Tab:=[]
def F (K:Verdict->Prop):Prop:=
 (K (⟨4,(-1)⟩:Verdict))
noncomputable def en:Entry:=mkEntry A C fun _=>F
theorem eqv (K:Verdict->Prop):apure E tab (fun _=>none) 4 110 [] (ansK C K)=F K:=by kernel_rfl
theorem loops:LoopsOk E tab (fun _=>none) 4 110:=loops_none _ _ _ _
theorem det:Det (F):=by
 unfold F
 repeat' with_reducible first|exact det_ret _
theorem edet (a:List AV):Det (en a):=mkEntry_det (fun _:Dens A=>det) a
theorem ground:Ground E tab:=⟨num,mixed,(tab_nil _),clone,dtab_nil,stab⟩
theorem sound:EntrySound E 110 en:=mkSound ground loops (by kernel_rfl) (fun (_:Dens A) K=>eqv  K)
end q171
namespace q172
abbrev A:List Ty:=[.bool,.bool]
abbrev C:=(cTy (.int .i64))
abbrev T:Type:=Bool->Bool->(Int->Prop)->Prop
noncomputable def tab:Tab:=[]
def F (x_0:Bool) (y:Bool) (K:Int->Prop):Prop:=
 (bif x_0 then(bif(!y)then(K 0)else(bif y then(bif(!x_0)then(K 1)else(K (-1)))else(K (-1))))else(bif y then(bif(!x_0)then(K 1)else(K (-1)))else(K (-1))))
noncomputable def en:Entry:=mkEntry A C fun x=>F x.1 x.2.1
theorem eqv (x_0:Bool) (y:Bool) (K:Int->Prop):apure E tab (fun _=>none) 4 111 [enc .bool x_0,enc .bool y] (ansK C K)=F x_0 y K:=by kernel_rfl
theorem loops:LoopsOk E tab (fun _=>none) 4 111:=loops_none _ _ _ _
theorem det (x_0:Bool) (y:Bool):Det (F x_0 y):=by
 unfold F
 repeat' with_reducible first|exact det_ret _|refine det_cond _ ?_ ?_
theorem edet (a:List AV):Det (en a):=mkEntry_det (fun x:Dens A=>det x.1 x.2.1) a
theorem ground:Ground E tab:=⟨num,mixed,(tab_nil _),clone,dtab_nil,stab⟩
theorem sound:EntrySound E 111 en:=mkSound ground loops (by kernel_rfl) (fun (x:Dens A) K=>eqv  x.1 x.2.1 K)
end q172
namespace q173
abbrev A:List Ty:=[(.st 19)]
abbrev C:=(cTy (.st 4))
abbrev T:Type:=PairH->(Hello->Prop)->Prop
noncomputable def tab:Tab:=[]
def F (p:PairH) (K:Hello->Prop):Prop:=
 (bif(p.source==0)then(K p.h0)else(bif(p.source==1)then(K p.h1)else False))
noncomputable def en:Entry:=mkEntry A C fun x=>F x.1
theorem eqv (p:PairH) (K:Hello->Prop):apure E tab (fun _=>none) 4 169 [enc (.st 19) p] (ansK C K)=F p K:=by kernel_rfl
theorem loops:LoopsOk E tab (fun _=>none) 4 169:=loops_none _ _ _ _
theorem det (p:PairH):Det (F p):=by
 unfold F
 repeat' with_reducible first|exact det_ret _|exact det_false|refine det_cond _ ?_ ?_
theorem edet (a:List AV):Det (en a):=mkEntry_det (fun x:Dens A=>det x.1) a
theorem ground:Ground E tab:=⟨num,mixed,(tab_nil _),clone,dtab_nil,stab⟩
theorem sound:EntrySound E 169 en:=mkSound ground loops (by kernel_rfl) (fun (x:Dens A) K=>eqv  x.1 K)
end q173
namespace q174
abbrev A:List Ty:=[(.st 19)]
abbrev C:=(cTy (.st 4))
abbrev T:Type:=PairH->(Hello->Prop)->Prop
noncomputable def tab:Tab:=[]
def F (p:PairH) (K:Hello->Prop):Prop:=
 (bif((IntKind.i64.wrap (1 - p.source))==0)then(K p.h0)else(bif((IntKind.i64.wrap (1 - p.source))==1)then(K p.h1)else False))
noncomputable def en:Entry:=mkEntry A C fun x=>F x.1
theorem eqv (p:PairH) (K:Hello->Prop):apure E tab (fun _=>none) 4 168 [enc (.st 19) p] (ansK C K)=F p K:=by kernel_rfl
theorem loops:LoopsOk E tab (fun _=>none) 4 168:=loops_none _ _ _ _
theorem det (p:PairH):Det (F p):=by
 unfold F
 repeat' with_reducible first|exact det_ret _|exact det_false|refine det_cond _ ?_ ?_
theorem edet (a:List AV):Det (en a):=mkEntry_det (fun x:Dens A=>det x.1) a
theorem ground:Ground E tab:=⟨num,mixed,(tab_nil _),clone,dtab_nil,stab⟩
theorem sound:EntrySound E 168 en:=mkSound ground loops (by kernel_rfl) (fun (x:Dens A) K=>eqv  x.1 K)
end q174
namespace q175
abbrev A:List Ty:=[(.slice (.int .u64)),(.int .u64)]
abbrev C:=(cTy (.int .i64))
abbrev T:Type:=(List Int)->Int->(Int->Prop)->Prop
noncomputable def tab:Tab:=[]
structure R where
 t4:Int
def cR (x:R):St:={ fr:=lookL .top [(4,(.int .i64 x.t4))],hs:={ hp:=lookL .dead [],hn:=0 } }
def kR:Keep:={ ks:=[(4,none)],bs:=[],hn:=0 }
structure L0 where
 s:(List Int)
 v:Int
 t7:Int
 t8:Int
def c0 (x:L0):St:={ fr:=lookL .top [(0,(.sl .any (.int .u64) x.s)),(1,(.int .u64 x.v)),(7,(.int .i64 x.t7)),(8,(.int .i64 x.t8))],hs:={ hp:=lookL .dead [],hn:=0 } }
def kp0:Keep:={ ks:=[(0,none),(1,none),(7,none),(8,none)],bs:=[],hn:=0 }
def p0 (st:St) (K:L0->Prop):Prop:=gSl .any (.int .u64) (st.fr 0) fun a1=>gInt .u64 (st.fr 1) fun a2=>gInt .i64 (st.fr 7) fun a3=>gInt .i64 (st.fr 8) fun a4=>K ⟨a1,a2,a3,a4⟩
set_option maxHeartbeats 4000000 in
theorem p0_ok (st:St) (K:L0->Prop) (h:p0 st K):∃ x,keepSt kp0 st=c0 x∧K x:=by
 obtain ⟨a1,h0,h⟩:=gSl_elim h
 obtain ⟨a2,h1,h⟩:=gInt_elim h
 obtain ⟨a3,h2,h⟩:=gInt_elim h
 obtain ⟨a4,h3,h⟩:=gInt_elim h
 refine⟨_,?_,h⟩
 simp only [keepSt,kp0,List.map,h0,h1,h2,h3]
 rfl
def b0 (rec kx:L0->Prop) (kr:R->Prop) (x:L0):Prop:=
 (bif(decide (x.t8 < x.t7))then(oget (getI x.s x.t8) fun v1=>(bif(x.v==v1)then(kr ⟨x.t8⟩)else(rec ⟨x.s,x.v,x.t7,(IntKind.i64.wrap (x.t8+1))⟩)))else(kx ⟨x.s,x.v,x.t7,x.t8⟩))
def lt:Nat->Option LSpec
 | 0=>some (mkLoop 0 kp0 kR p0 c0 cR b0)
 | _=>none
def F (s:(List Int)) (v:Int) (K:Int->Prop):Prop:=
 (∃ n,loopB b0 n (fun x2=>(K (-1))) (fun r3=>(K r3.t4)) ⟨s,v,(s.length:Int),0⟩)
noncomputable def en:Entry:=mkEntry A C fun x=>F x.1 x.2.1
theorem eqv (s:(List Int)) (v:Int) (K:Int->Prop):apure E tab lt 4 223 [enc (.slice (.int .u64)) s,enc (.int .u64) v] (ansK C K)=F s v K:=by kernel_rfl
theorem l0v (R:St->Prop) (Kx:Nat->St->Prop) (Kr:St->Prop) (x:L0):acode E tab (afun E tab 4) 19 lt ((loopsIn E.P 223).getD 0 (0,.skip)).2 0 (fun s=>R (keepSt kp0 s)) (fun j s=>Kx j (keepSt kp0 s)) (fun s=>Kr (keepSt kR s)) (c0 x)=b0 (fun x=>R (c0 x)) (fun x=>Kx 0 (c0 x)) (fun r=>Kr (cR r)) x:=by kernel_rfl
theorem l0_ok:LSound E tab (afun E tab 4) 19 lt 0 ((loopsIn E.P 223).getD 0 (0,.skip)).2 (mkLoop 0 kp0 kR p0 c0 cR b0):=mkLoop_sound (by decide) (by decide) p0_ok (fun R Kx Kr x=>l0v  R Kx Kr x)
theorem loops:LoopsOk E tab lt 4 223:=loops_of (nt:=19) (ids:=[0]) (by kernel_rfl) (by kernel_rfl) (by
 intro k i hk l hl
 match k,hk with
 | 0,hk=>cases hk;cases hl;exact l0_ok
 | _+1,hk=>exact absurd hk (by simp))
theorem det (s:(List Int)) (v:Int):Det (F s v):=by
 unfold F
 repeat' with_reducible first|exact det_ret _|refine det_cond _ ?_ ?_|refine det_oget _ (fun _=>?_)|refine det_loop (fun _=>?_) (fun _=>?_) (fun _=>?_) _ | unfold b0
theorem edet (a:List AV):Det (en a):=mkEntry_det (fun x:Dens A=>det x.1 x.2.1) a
theorem ground:Ground E tab:=⟨num,mixed,(tab_nil _),clone,dtab_nil,stab⟩
theorem sound:EntrySound E 223 en:=mkSound ground loops (by kernel_rfl) (fun (x:Dens A) K=>eqv  x.1 x.2.1 K)
end q175
namespace q176
abbrev A:List Ty:=[(.st 2),(.int .u64)]
abbrev C:=(cTy (.int .i64))
abbrev T:Type:=Vec->Int->(Int->Prop)->Prop
noncomputable def tv (f0:q175.T):Tab:=[(223,mkEntry q175.A q175.C fun x=>f0 x.1 x.2.1)]
noncomputable def tab:Tab:=tv q175.F
def FV (f0:q175.T) (v:Vec) (g:Int) (K:Int->Prop):Prop:=
 (bif(g==0)then(K (-1))else(f0 ([v.current,v.bitmap,v.old0,v.old1]:List Int) g fun r1=>(K r1)))
def F (v:Vec) (g:Int) (K:Int->Prop):Prop:=FV q175.F v g K
noncomputable def en:Entry:=mkEntry A C fun x=>F x.1 x.2.1
theorem eqv (f0:q175.T) (v:Vec) (g:Int) (K:Int->Prop):apure E (tv f0) (fun _=>none) 4 172 [enc (.st 2) v,enc (.int .u64) g] (ansK C K)=FV f0 v g K:=by kernel_rfl
theorem loops:LoopsOk E tab (fun _=>none) 4 172:=loops_none _ _ _ _
theorem det (v:Vec) (g:Int):Det (F v g):=by
 unfold F FV
 repeat' with_reducible first|exact det_ret _|refine det_cond _ ?_ ?_|refine det_bind (q175.det _ _) (fun _=>?_)
theorem edet (a:List AV):Det (en a):=mkEntry_det (fun x:Dens A=>det x.1 x.2.1) a
theorem ground:Ground E tab:=⟨num,mixed,(tab_cons q175.sound (tab_nil _)),clone,(dtab_cons q175.edet dtab_nil),stab⟩
theorem sound:EntrySound E 172 en:=mkSound ground loops (by kernel_rfl) (fun (x:Dens A) K=>eqv q175.F x.1 x.2.1 K)
end q176
namespace q177
abbrev A:List Ty:=[(.st 2),(.slice (.int .u64))]
abbrev C:=(cTy .bool)
abbrev T:Type:=Vec->(List Int)->(Bool->Prop)->Prop
noncomputable def tv (f0:q176.T):Tab:=[(172,mkEntry q176.A q176.C fun x=>f0 x.1 x.2.1)]
noncomputable def tab:Tab:=tv q176.F
def FV (f0:q176.T) (v:Vec) (l:(List Int)) (K:Bool->Prop):Prop:=
 (bif(decide (0 < (l.length:Int)))then(oget (getI l 0) fun v1=>(f0 v v1 fun r2=>(bif(decide (r2 < 0))then(K false)else(bif(decide (1 < (l.length:Int)))then(oget (getI l 1) fun v3=>(f0 v v3 fun r4=>(bif(decide (r4 < 0))then(K false)else(bif(decide (2 < (l.length:Int)))then(oget (getI l 2) fun v5=>(f0 v v5 fun r6=>(bif(decide (r6 < 0))then(K false)else(bif(decide (3 < (l.length:Int)))then(oget (getI l 3) fun v7=>(f0 v v7 fun r8=>(bif(decide (r8 < 0))then(K false)else(bif(decide (4 < (l.length:Int)))then(oget (getI l 4) fun v9=>(f0 v v9 fun r10=>(bif(decide (r10 < 0))then(K false)else(bif(decide (5 < (l.length:Int)))then(oget (getI l 5) fun v11=>(f0 v v11 fun r12=>(bif(decide (r12 < 0))then(K false)else(bif(decide (6 < (l.length:Int)))then(oget (getI l 6) fun v13=>(f0 v v13 fun r14=>(bif(decide (r14 < 0))then(K false)else(bif(decide (7 < (l.length:Int)))then(oget (getI l 7) fun v15=>(f0 v v15 fun r16=>(bif(decide (r16 < 0))then(K false)else(bif(decide (8 < (l.length:Int)))then(oget (getI l 8) fun v17=>(f0 v v17 fun r18=>(bif(decide (r18 < 0))then(K false)else(bif(decide (9 < (l.length:Int)))then(oget (getI l 9) fun v19=>(f0 v v19 fun r20=>(bif(decide (r20 < 0))then(K false)else(bif(decide (10 < (l.length:Int)))then(oget (getI l 10) fun v21=>(f0 v v21 fun r22=>(bif(decide (r22 < 0))then(K false)else(bif(decide (11 < (l.length:Int)))then(oget (getI l 11) fun v23=>(f0 v v23 fun r24=>(bif(decide (r24 < 0))then(K false)else False)))else(K true)))))else(K true)))))else(K true)))))else(K true)))))else(K true)))))else(K true)))))else(K true)))))else(K true)))))else(K true)))))else(K true)))))else(K true)))))else(K true))
def F (v:Vec) (l:(List Int)) (K:Bool->Prop):Prop:=FV q176.F v l K
noncomputable def en:Entry:=mkEntry A C fun x=>F x.1 x.2.1
theorem eqv (f0:q176.T) (v:Vec) (l:(List Int)) (K:Bool->Prop):apure E (tv f0) (fun _=>none) 4 115 [enc (.st 2) v,enc (.slice (.int .u64)) l] (ansK C K)=FV f0 v l K:=by kernel_rfl
theorem loops:LoopsOk E tab (fun _=>none) 4 115:=loops_none _ _ _ _
theorem det (v:Vec) (l:(List Int)):Det (F v l):=by
 unfold F FV
 repeat' with_reducible first|exact det_ret _|exact det_false|refine det_cond _ ?_ ?_|refine det_oget _ (fun _=>?_)|refine det_bind (q176.det _ _) (fun _=>?_)
theorem edet (a:List AV):Det (en a):=mkEntry_det (fun x:Dens A=>det x.1 x.2.1) a
theorem ground:Ground E tab:=⟨num,mixed,(tab_cons q176.sound (tab_nil _)),clone,(dtab_cons q176.edet dtab_nil),stab⟩
theorem sound:EntrySound E 115 en:=mkSound ground loops (by kernel_rfl) (fun (x:Dens A) K=>eqv q176.F x.1 x.2.1 K)
end q177
namespace q178
abbrev A:List Ty:=[(.st 19)]
abbrev C:=(cTy (.int .i64))
abbrev T:Type:=PairH->(Int->Prop)->Prop
noncomputable def tv (f0:q173.T) (f1:q174.T) (f2:q176.T):Tab:=[(169,mkEntry q173.A q173.C fun x=>f0 x.1),(168,mkEntry q174.A q174.C fun x=>f1 x.1),(172,mkEntry q176.A q176.C fun x=>f2 x.1 x.2.1)]
noncomputable def tab:Tab:=tv q173.F q174.F q176.F
def FV (f0:q173.T) (f1:q174.T) (f2:q176.T) (p:PairH) (K:Int->Prop):Prop:=
 (f0 p fun r1=>(f1 p fun r2=>(f2 r1.vector r2.vector.current fun r3=>(bif(r3==2)then(K 3)else(bif(r3==3)then(K 3)else(bif(r3==0)then(K 2)else(bif(r3==1)then(K 2)else(K 4))))))))
def F (p:PairH) (K:Int->Prop):Prop:=FV q173.F q174.F q176.F p K
noncomputable def en:Entry:=mkEntry A C fun x=>F x.1
theorem eqv (f0:q173.T) (f1:q174.T) (f2:q176.T) (p:PairH) (K:Int->Prop):apure E (tv f0 f1 f2) (fun _=>none) 4 116 [enc (.st 19) p] (ansK C K)=FV f0 f1 f2 p K:=by kernel_rfl
theorem loops:LoopsOk E tab (fun _=>none) 4 116:=loops_none _ _ _ _
theorem det (p:PairH):Det (F p):=by
 unfold F FV
 repeat' with_reducible first|exact det_ret _|refine det_cond _ ?_ ?_|refine det_bind (q173.det _) (fun _=>?_)|refine det_bind (q174.det _) (fun _=>?_)|refine det_bind (q176.det _ _) (fun _=>?_)
theorem edet (a:List AV):Det (en a):=mkEntry_det (fun x:Dens A=>det x.1) a
theorem ground:Ground E tab:=⟨num,mixed,(tab_cons q173.sound (tab_cons q174.sound (tab_cons q176.sound (tab_nil _)))),clone,(dtab_cons q173.edet (dtab_cons q174.edet (dtab_cons q176.edet dtab_nil))),stab⟩
theorem sound:EntrySound E 116 en:=mkSound ground loops (by kernel_rfl) (fun (x:Dens A) K=>eqv q173.F q174.F q176.F x.1 K)
end q178
namespace q179
abbrev A:List Ty:=[(.st 19)]
abbrev C:=(cTy (.int .i64))
abbrev T:Type:=PairH->(Int->Prop)->Prop
noncomputable def tv (f0:q173.T) (f1:q174.T) (f2:q177.T) (f3:q178.T):Tab:=[(169,mkEntry q173.A q173.C fun x=>f0 x.1),(168,mkEntry q174.A q174.C fun x=>f1 x.1),(115,mkEntry q177.A q177.C fun x=>f2 x.1 x.2.1),(116,mkEntry q178.A q178.C fun x=>f3 x.1)]
noncomputable def tab:Tab:=tv q173.F q174.F q177.F q178.F
def FV (f0:q173.T) (f1:q174.T) (f2:q177.T) (f3:q178.T) (p:PairH) (K:Int->Prop):Prop:=
 (f0 p fun r1=>(f1 p fun r2=>(bif r1.dis then(K 4)else(f2 r1.vector ([r2.vector.bitmap]:List Int) fun r3=>(bif r3 then(K 2)else(bif r2.dis then(K 3)else(f3 p fun r4=>(K r4))))))))
def F (p:PairH) (K:Int->Prop):Prop:=FV q173.F q174.F q177.F q178.F p K
noncomputable def en:Entry:=mkEntry A C fun x=>F x.1
theorem eqv (f0:q173.T) (f1:q174.T) (f2:q177.T) (f3:q178.T) (p:PairH) (K:Int->Prop):apure E (tv f0 f1 f2 f3) (fun _=>none) 4 113 [enc (.st 19) p] (ansK C K)=FV f0 f1 f2 f3 p K:=by kernel_rfl
theorem loops:LoopsOk E tab (fun _=>none) 4 113:=loops_none _ _ _ _
theorem det (p:PairH):Det (F p):=by
 unfold F FV
 repeat' with_reducible first|exact det_ret _|refine det_cond _ ?_ ?_|refine det_bind (q173.det _) (fun _=>?_)|refine det_bind (q174.det _) (fun _=>?_)|refine det_bind (q177.det _ _) (fun _=>?_)|refine det_bind (q178.det _) (fun _=>?_)
theorem edet (a:List AV):Det (en a):=mkEntry_det (fun x:Dens A=>det x.1) a
theorem ground:Ground E tab:=⟨num,mixed,(tab_cons q173.sound (tab_cons q174.sound (tab_cons q177.sound (tab_cons q178.sound (tab_nil _))))),clone,(dtab_cons q173.edet (dtab_cons q174.edet (dtab_cons q177.edet (dtab_cons q178.edet dtab_nil)))),stab⟩
theorem sound:EntrySound E 113 en:=mkSound ground loops (by kernel_rfl) (fun (x:Dens A) K=>eqv q173.F q174.F q177.F q178.F x.1 K)
end q179
namespace q180
abbrev A:List Ty:=[(.st 19),(.int .i64)]
abbrev C:=(cTy (.st 17))
abbrev T:Type:=PairH->Int->(Verdict->Prop)->Prop
noncomputable def tv (f0:q171.T) (f1:q174.T):Tab:=[(110,mkEntry q171.A q171.C fun _=>f0),(168,mkEntry q174.A q174.C fun x=>f1 x.1)]
noncomputable def tab:Tab:=tv q171.F q174.F
def FV (f0:q171.T) (f1:q174.T) (p:PairH) (kind:Int) (K:Verdict->Prop):Prop:=
 (bif(kind==4)then(f0 fun r1=>(K r1))else(f1 p fun r2=>(bif r2.pri then(f0 fun r3=>(K r3))else(K (⟨kind,p.source⟩:Verdict)))))
def F (p:PairH) (kind:Int) (K:Verdict->Prop):Prop:=FV q171.F q174.F p kind K
noncomputable def en:Entry:=mkEntry A C fun x=>F x.1 x.2.1
theorem eqv (f0:q171.T) (f1:q174.T) (p:PairH) (kind:Int) (K:Verdict->Prop):apure E (tv f0 f1) (fun _=>none) 4 112 [enc (.st 19) p,enc (.int .i64) kind] (ansK C K)=FV f0 f1 p kind K:=by kernel_rfl
theorem loops:LoopsOk E tab (fun _=>none) 4 112:=loops_none _ _ _ _
theorem det (p:PairH) (kind:Int):Det (F p kind):=by
 unfold F FV
 repeat' with_reducible first|exact det_ret _|refine det_cond _ ?_ ?_|refine det_bind (q171.det) (fun _=>?_)|refine det_bind (q174.det _) (fun _=>?_)
theorem edet (a:List AV):Det (en a):=mkEntry_det (fun x:Dens A=>det x.1 x.2.1) a
theorem ground:Ground E tab:=⟨num,mixed,(tab_cons q171.sound (tab_cons q174.sound (tab_nil _))),clone,(dtab_cons q171.edet (dtab_cons q174.edet dtab_nil)),stab⟩
theorem sound:EntrySound E 112 en:=mkSound ground loops (by kernel_rfl) (fun (x:Dens A) K=>eqv q171.F q174.F x.1 x.2.1 K)
end q180
namespace q181
abbrev A:List Ty:=[(.slice (.int .u32))]
abbrev C:=(cTy (.int .u32))
abbrev T:Type:=(List Int)->(Int->Prop)->Prop
noncomputable def tab:Tab:=[]
structure R where
def cR (_:R):St:={ fr:=fun _=>.top,hs:=hs0 }
def kR:Keep:={ ks:=[],bs:=[],hn:=0 }
structure L0 where
 m:Int
 t5:(List Int)
 t6:Int
 t7:Int
def c0 (x:L0):St:={ fr:=lookL .top [(2,(.int .u32 x.m)),(5,(.sl .any (.int .u32) x.t5)),(6,(.int .i64 x.t6)),(7,(.int .i64 x.t7))],hs:={ hp:=lookL .dead [],hn:=0 } }
def kp0:Keep:={ ks:=[(2,none),(5,none),(6,none),(7,none)],bs:=[],hn:=0 }
def p0 (st:St) (K:L0->Prop):Prop:=gInt .u32 (st.fr 2) fun a1=>gSl .any (.int .u32) (st.fr 5) fun a2=>gInt .i64 (st.fr 6) fun a3=>gInt .i64 (st.fr 7) fun a4=>K ⟨a1,a2,a3,a4⟩
set_option maxHeartbeats 4000000 in
theorem p0_ok (st:St) (K:L0->Prop) (h:p0 st K):∃ x,keepSt kp0 st=c0 x∧K x:=by
 obtain ⟨a1,h0,h⟩:=gInt_elim h
 obtain ⟨a2,h1,h⟩:=gSl_elim h
 obtain ⟨a3,h2,h⟩:=gInt_elim h
 obtain ⟨a4,h3,h⟩:=gInt_elim h
 refine⟨_,?_,h⟩
 simp only [keepSt,kp0,List.map,h0,h1,h2,h3]
 rfl
def b0 (rec kx:L0->Prop) (kr:R->Prop) (x:L0):Prop:=
 (bif(decide (x.t7 < x.t6))then(oget (getI x.t5 x.t7) fun v1=>(rec ⟨(ior .u32 x.m v1),x.t5,x.t6,(IntKind.i64.wrap (x.t7+1))⟩))else(kx ⟨x.m,x.t5,x.t6,x.t7⟩))
def lt:Nat->Option LSpec
 | 0=>some (mkLoop 0 kp0 kR p0 c0 cR b0)
 | _=>none
def F (l:(List Int)) (K:Int->Prop):Prop:=
 (∃ n,loopB b0 n (fun x2=>(K x2.m)) (fun _=>False) ⟨0,l,(l.length:Int),0⟩)
noncomputable def en:Entry:=mkEntry A C fun x=>F x.1
theorem eqv (l:(List Int)) (K:Int->Prop):apure E tab lt 4 117 [enc (.slice (.int .u32)) l] (ansK C K)=F l K:=by kernel_rfl
theorem l0v (R:St->Prop) (Kx:Nat->St->Prop) (Kr:St->Prop) (x:L0):acode E tab (afun E tab 4) 16 lt ((loopsIn E.P 117).getD 0 (0,.skip)).2 0 (fun s=>R (keepSt kp0 s)) (fun j s=>Kx j (keepSt kp0 s)) (fun s=>Kr (keepSt kR s)) (c0 x)=b0 (fun x=>R (c0 x)) (fun x=>Kx 0 (c0 x)) (fun r=>Kr (cR r)) x:=by kernel_rfl
theorem l0_ok:LSound E tab (afun E tab 4) 16 lt 0 ((loopsIn E.P 117).getD 0 (0,.skip)).2 (mkLoop 0 kp0 kR p0 c0 cR b0):=mkLoop_sound (by decide) (by decide) p0_ok (fun R Kx Kr x=>l0v  R Kx Kr x)
theorem loops:LoopsOk E tab lt 4 117:=loops_of (nt:=16) (ids:=[0]) (by kernel_rfl) (by kernel_rfl) (by
 intro k i hk l hl
 match k,hk with
 | 0,hk=>cases hk;cases hl;exact l0_ok
 | _+1,hk=>exact absurd hk (by simp))
theorem det (l:(List Int)):Det (F l):=by
 unfold F
 repeat' with_reducible first|exact det_ret _|exact det_false|refine det_cond _ ?_ ?_|refine det_oget _ (fun _=>?_)|refine det_loop (fun _=>?_) (fun _=>?_) (fun _=>?_) _ | unfold b0
theorem edet (a:List AV):Det (en a):=mkEntry_det (fun x:Dens A=>det x.1) a
theorem ground:Ground E tab:=⟨num,mixed,(tab_nil _),clone,dtab_nil,stab⟩
theorem sound:EntrySound E 117 en:=mkSound ground loops (by kernel_rfl) (fun (x:Dens A) K=>eqv  x.1 K)
end q181
namespace q182
abbrev A:List Ty:=[(.st 4),(.st 4)]
abbrev C:=(cTy (.st 17))
abbrev T:Type:=Hello->Hello->(Verdict->Prop)->Prop
noncomputable def tv (f0:q181.T) (f1:q180.T):Tab:=[(117,mkEntry q181.A q181.C fun x=>f0 x.1),(112,mkEntry q180.A q180.C fun x=>f1 x.1 x.2.1)]
noncomputable def tab:Tab:=tv q181.F q180.F
def FV (f0:q181.T) (f1:q180.T) (x_0:Hello) (y:Hello) (K:Verdict->Prop):Prop:=
 (f0 ([x_0.mask,y.mask]:List Int) fun r1=>(bif(r1==0)then(K (⟨1,(-1)⟩:Verdict))else(bif x_0.pri then(f1 (⟨x_0,y,0⟩:PairH) 2 fun r2=>(K r2))else(bif y.pri then(f1 (⟨x_0,y,1⟩:PairH) 2 fun r3=>(K r3))else(bif y.was then(bif(!x_0.was)then(f1 (⟨x_0,y,1⟩:PairH) 2 fun r4=>(K r4))else(f1 (⟨x_0,y,0⟩:PairH) 2 fun r5=>(K r5)))else(f1 (⟨x_0,y,0⟩:PairH) 2 fun r6=>(K r6)))))))
def F (x_0:Hello) (y:Hello) (K:Verdict->Prop):Prop:=FV q181.F q180.F x_0 y K
noncomputable def en:Entry:=mkEntry A C fun x=>F x.1 x.2.1
theorem eqv (f0:q181.T) (f1:q180.T) (x_0:Hello) (y:Hello) (K:Verdict->Prop):apure E (tv f0 f1) (fun _=>none) 4 114 [enc (.st 4) x_0,enc (.st 4) y] (ansK C K)=FV f0 f1 x_0 y K:=by kernel_rfl
theorem loops:LoopsOk E tab (fun _=>none) 4 114:=loops_none _ _ _ _
theorem det (x_0:Hello) (y:Hello):Det (F x_0 y):=by
 unfold F FV
 repeat' with_reducible first|exact det_ret _|refine det_cond _ ?_ ?_|refine det_bind (q181.det _) (fun _=>?_)|refine det_bind (q180.det _ _) (fun _=>?_)
theorem edet (a:List AV):Det (en a):=mkEntry_det (fun x:Dens A=>det x.1 x.2.1) a
theorem ground:Ground E tab:=⟨num,mixed,(tab_cons q181.sound (tab_cons q180.sound (tab_nil _))),clone,(dtab_cons q181.edet (dtab_cons q180.edet dtab_nil)),stab⟩
theorem sound:EntrySound E 114 en:=mkSound ground loops (by kernel_rfl) (fun (x:Dens A) K=>eqv q181.F q180.F x.1 x.2.1 K)
end q182
namespace q183
abbrev A:List Ty:=[(.st 4),(.st 4)]
abbrev C:=(cTy (.st 17))
abbrev T:Type:=Hello->Hello->(Verdict->Prop)->Prop
noncomputable def tv (f0:q171.T) (f1:q172.T) (f2:q179.T) (f3:q180.T) (f4:q182.T) (f5:q177.T) (f6:q178.T):Tab:=[(110,mkEntry q171.A q171.C fun _=>f0),(111,mkEntry q172.A q172.C fun x=>f1 x.1 x.2.1),(113,mkEntry q179.A q179.C fun x=>f2 x.1),(112,mkEntry q180.A q180.C fun x=>f3 x.1 x.2.1),(114,mkEntry q182.A q182.C fun x=>f4 x.1 x.2.1),(115,mkEntry q177.A q177.C fun x=>f5 x.1 x.2.1),(116,mkEntry q178.A q178.C fun x=>f6 x.1)]
noncomputable def tab:Tab:=tv q171.F q172.F q179.F q180.F q182.F q177.F q178.F
def FV (f0:q171.T) (f1:q172.T) (f2:q179.T) (f3:q180.T) (f4:q182.T) (f5:q177.T) (f6:q178.T) (x_0:Hello) (y:Hello) (K:Verdict->Prop):Prop:=
 (bif(x_0.blocks != y.blocks)then(f0 fun r1=>(K r1))else(bif x_0.pri then(bif y.pri then(f0 fun r2=>(K r2))else(bif x_0.inc then(bif y.inc then(f0 fun r3=>(K r3))else(bif x_0.dis then(bif y.dis then(f0 fun r4=>(K r4))else(f1 x_0.inc y.inc fun r5=>(bif(r5 != (-1))then(f2 (⟨x_0,y,(IntKind.i64.wrap (1 - r5))⟩:PairH) fun r6=>(f3 (⟨x_0,y,(IntKind.i64.wrap (1 - r5))⟩:PairH) r6 fun r7=>(K r7)))else(f1 x_0.dis y.dis fun r8=>(bif(r8 != (-1))then(f3 (⟨x_0,y,(IntKind.i64.wrap (1 - r8))⟩:PairH) 3 fun r9=>(K r9))else(bif(x_0.vector.current==y.vector.current)then(f4 x_0 y fun r10=>(K r10))else(f5 x_0.vector ([y.vector.current]:List Int) fun r11=>(f5 y.vector ([x_0.vector.current]:List Int) fun r12=>(f1 r11 r12 fun r13=>(bif(r13==(-1))then(f0 fun r14=>(K r14))else(f6 (⟨x_0,y,r13⟩:PairH) fun r15=>(f3 (⟨x_0,y,r13⟩:PairH) r15 fun r16=>(K r16)))))))))))))else(f1 x_0.inc y.inc fun r17=>(bif(r17 != (-1))then(f2 (⟨x_0,y,(IntKind.i64.wrap (1 - r17))⟩:PairH) fun r18=>(f3 (⟨x_0,y,(IntKind.i64.wrap (1 - r17))⟩:PairH) r18 fun r19=>(K r19)))else(f1 x_0.dis y.dis fun r20=>(bif(r20 != (-1))then(f3 (⟨x_0,y,(IntKind.i64.wrap (1 - r20))⟩:PairH) 3 fun r21=>(K r21))else(bif(x_0.vector.current==y.vector.current)then(f4 x_0 y fun r22=>(K r22))else(f5 x_0.vector ([y.vector.current]:List Int) fun r23=>(f5 y.vector ([x_0.vector.current]:List Int) fun r24=>(f1 r23 r24 fun r25=>(bif(r25==(-1))then(f0 fun r26=>(K r26))else(f6 (⟨x_0,y,r25⟩:PairH) fun r27=>(f3 (⟨x_0,y,r25⟩:PairH) r27 fun r28=>(K r28))))))))))))))else(bif x_0.dis then(bif y.dis then(f0 fun r29=>(K r29))else(f1 x_0.inc y.inc fun r30=>(bif(r30 != (-1))then(f2 (⟨x_0,y,(IntKind.i64.wrap (1 - r30))⟩:PairH) fun r31=>(f3 (⟨x_0,y,(IntKind.i64.wrap (1 - r30))⟩:PairH) r31 fun r32=>(K r32)))else(f1 x_0.dis y.dis fun r33=>(bif(r33 != (-1))then(f3 (⟨x_0,y,(IntKind.i64.wrap (1 - r33))⟩:PairH) 3 fun r34=>(K r34))else(bif(x_0.vector.current==y.vector.current)then(f4 x_0 y fun r35=>(K r35))else(f5 x_0.vector ([y.vector.current]:List Int) fun r36=>(f5 y.vector ([x_0.vector.current]:List Int) fun r37=>(f1 r36 r37 fun r38=>(bif(r38==(-1))then(f0 fun r39=>(K r39))else(f6 (⟨x_0,y,r38⟩:PairH) fun r40=>(f3 (⟨x_0,y,r38⟩:PairH) r40 fun r41=>(K r41)))))))))))))else(f1 x_0.inc y.inc fun r42=>(bif(r42 != (-1))then(f2 (⟨x_0,y,(IntKind.i64.wrap (1 - r42))⟩:PairH) fun r43=>(f3 (⟨x_0,y,(IntKind.i64.wrap (1 - r42))⟩:PairH) r43 fun r44=>(K r44)))else(f1 x_0.dis y.dis fun r45=>(bif(r45 != (-1))then(f3 (⟨x_0,y,(IntKind.i64.wrap (1 - r45))⟩:PairH) 3 fun r46=>(K r46))else(bif(x_0.vector.current==y.vector.current)then(f4 x_0 y fun r47=>(K r47))else(f5 x_0.vector ([y.vector.current]:List Int) fun r48=>(f5 y.vector ([x_0.vector.current]:List Int) fun r49=>(f1 r48 r49 fun r50=>(bif(r50==(-1))then(f0 fun r51=>(K r51))else(f6 (⟨x_0,y,r50⟩:PairH) fun r52=>(f3 (⟨x_0,y,r50⟩:PairH) r52 fun r53=>(K r53)))))))))))))))else(bif x_0.inc then(bif y.inc then(f0 fun r54=>(K r54))else(bif x_0.dis then(bif y.dis then(f0 fun r55=>(K r55))else(f1 x_0.inc y.inc fun r56=>(bif(r56 != (-1))then(f2 (⟨x_0,y,(IntKind.i64.wrap (1 - r56))⟩:PairH) fun r57=>(f3 (⟨x_0,y,(IntKind.i64.wrap (1 - r56))⟩:PairH) r57 fun r58=>(K r58)))else(f1 x_0.dis y.dis fun r59=>(bif(r59 != (-1))then(f3 (⟨x_0,y,(IntKind.i64.wrap (1 - r59))⟩:PairH) 3 fun r60=>(K r60))else(bif(x_0.vector.current==y.vector.current)then(f4 x_0 y fun r61=>(K r61))else(f5 x_0.vector ([y.vector.current]:List Int) fun r62=>(f5 y.vector ([x_0.vector.current]:List Int) fun r63=>(f1 r62 r63 fun r64=>(bif(r64==(-1))then(f0 fun r65=>(K r65))else(f6 (⟨x_0,y,r64⟩:PairH) fun r66=>(f3 (⟨x_0,y,r64⟩:PairH) r66 fun r67=>(K r67)))))))))))))else(f1 x_0.inc y.inc fun r68=>(bif(r68 != (-1))then(f2 (⟨x_0,y,(IntKind.i64.wrap (1 - r68))⟩:PairH) fun r69=>(f3 (⟨x_0,y,(IntKind.i64.wrap (1 - r68))⟩:PairH) r69 fun r70=>(K r70)))else(f1 x_0.dis y.dis fun r71=>(bif(r71 != (-1))then(f3 (⟨x_0,y,(IntKind.i64.wrap (1 - r71))⟩:PairH) 3 fun r72=>(K r72))else(bif(x_0.vector.current==y.vector.current)then(f4 x_0 y fun r73=>(K r73))else(f5 x_0.vector ([y.vector.current]:List Int) fun r74=>(f5 y.vector ([x_0.vector.current]:List Int) fun r75=>(f1 r74 r75 fun r76=>(bif(r76==(-1))then(f0 fun r77=>(K r77))else(f6 (⟨x_0,y,r76⟩:PairH) fun r78=>(f3 (⟨x_0,y,r76⟩:PairH) r78 fun r79=>(K r79))))))))))))))else(bif x_0.dis then(bif y.dis then(f0 fun r80=>(K r80))else(f1 x_0.inc y.inc fun r81=>(bif(r81 != (-1))then(f2 (⟨x_0,y,(IntKind.i64.wrap (1 - r81))⟩:PairH) fun r82=>(f3 (⟨x_0,y,(IntKind.i64.wrap (1 - r81))⟩:PairH) r82 fun r83=>(K r83)))else(f1 x_0.dis y.dis fun r84=>(bif(r84 != (-1))then(f3 (⟨x_0,y,(IntKind.i64.wrap (1 - r84))⟩:PairH) 3 fun r85=>(K r85))else(bif(x_0.vector.current==y.vector.current)then(f4 x_0 y fun r86=>(K r86))else(f5 x_0.vector ([y.vector.current]:List Int) fun r87=>(f5 y.vector ([x_0.vector.current]:List Int) fun r88=>(f1 r87 r88 fun r89=>(bif(r89==(-1))then(f0 fun r90=>(K r90))else(f6 (⟨x_0,y,r89⟩:PairH) fun r91=>(f3 (⟨x_0,y,r89⟩:PairH) r91 fun r92=>(K r92)))))))))))))else(f1 x_0.inc y.inc fun r93=>(bif(r93 != (-1))then(f2 (⟨x_0,y,(IntKind.i64.wrap (1 - r93))⟩:PairH) fun r94=>(f3 (⟨x_0,y,(IntKind.i64.wrap (1 - r93))⟩:PairH) r94 fun r95=>(K r95)))else(f1 x_0.dis y.dis fun r96=>(bif(r96 != (-1))then(f3 (⟨x_0,y,(IntKind.i64.wrap (1 - r96))⟩:PairH) 3 fun r97=>(K r97))else(bif(x_0.vector.current==y.vector.current)then(f4 x_0 y fun r98=>(K r98))else(f5 x_0.vector ([y.vector.current]:List Int) fun r99=>(f5 y.vector ([x_0.vector.current]:List Int) fun r100=>(f1 r99 r100 fun r101=>(bif(r101==(-1))then(f0 fun r102=>(K r102))else(f6 (⟨x_0,y,r101⟩:PairH) fun r103=>(f3 (⟨x_0,y,r101⟩:PairH) r103 fun r104=>(K r104))))))))))))))))
def F (x_0:Hello) (y:Hello) (K:Verdict->Prop):Prop:=FV q171.F q172.F q179.F q180.F q182.F q177.F q178.F x_0 y K
noncomputable def en:Entry:=mkEntry A C fun x=>F x.1 x.2.1
theorem eqv (f0:q171.T) (f1:q172.T) (f2:q179.T) (f3:q180.T) (f4:q182.T) (f5:q177.T) (f6:q178.T) (x_0:Hello) (y:Hello) (K:Verdict->Prop):apure E (tv f0 f1 f2 f3 f4 f5 f6) (fun _=>none) 4 63 [enc (.st 4) x_0,enc (.st 4) y] (ansK C K)=FV f0 f1 f2 f3 f4 f5 f6 x_0 y K:=by kernel_rfl
theorem loops:LoopsOk E tab (fun _=>none) 4 63:=loops_none _ _ _ _
theorem det (x_0:Hello) (y:Hello):Det (F x_0 y):=by
 unfold F FV
 repeat' with_reducible first|exact det_ret _|refine det_cond _ ?_ ?_|refine det_bind (q171.det) (fun _=>?_)|refine det_bind (q172.det _ _) (fun _=>?_)|refine det_bind (q179.det _) (fun _=>?_)|refine det_bind (q180.det _ _) (fun _=>?_)|refine det_bind (q182.det _ _) (fun _=>?_)|refine det_bind (q177.det _ _) (fun _=>?_)|refine det_bind (q178.det _) (fun _=>?_)
theorem edet (a:List AV):Det (en a):=mkEntry_det (fun x:Dens A=>det x.1 x.2.1) a
theorem ground:Ground E tab:=⟨num,mixed,(tab_cons q171.sound (tab_cons q172.sound (tab_cons q179.sound (tab_cons q180.sound (tab_cons q182.sound (tab_cons q177.sound (tab_cons q178.sound (tab_nil _)))))))),clone,(dtab_cons q171.edet (dtab_cons q172.edet (dtab_cons q179.edet (dtab_cons q180.edet (dtab_cons q182.edet (dtab_cons q177.edet (dtab_cons q178.edet dtab_nil))))))),stab⟩
theorem sound:EntrySound E 63 en:=mkSound ground loops (by kernel_rfl) (fun (x:Dens A) K=>eqv q171.F q172.F q179.F q180.F q182.F q177.F q178.F x.1 x.2.1 K)
end q183
namespace q184
abbrev A:List Ty:=[(.st 17),(.st 4),(.st 4)]
abbrev C:=(cTy (.int .u32))
abbrev T:Type:=Verdict->Hello->Hello->(Int->Prop)->Prop
noncomputable def tv (f0:q181.T) (f1:q131.T):Tab:=[(117,mkEntry q181.A q181.C fun x=>f0 x.1),(119,mkEntry q131.A q131.C fun x=>f1 x.1)]
noncomputable def tab:Tab:=tv q181.F q131.F
def FV (f0:q181.T) (f1:q131.T) (v:Verdict) (x_1:Hello) (y:Hello) (K:Int->Prop):Prop:=
 (bif(v.kind==2)then(f0 ([x_1.mask,y.mask]:List Int) fun r1=>(K r1))else(bif(v.kind==3)then(f1 x_1.blocks fun r2=>(K r2))else(K 0)))
def F (v:Verdict) (x_1:Hello) (y:Hello) (K:Int->Prop):Prop:=FV q181.F q131.F v x_1 y K
noncomputable def en:Entry:=mkEntry A C fun x=>F x.1 x.2.1 x.2.2.1
theorem eqv (f0:q181.T) (f1:q131.T) (v:Verdict) (x_1:Hello) (y:Hello) (K:Int->Prop):apure E (tv f0 f1) (fun _=>none) 4 67 [enc (.st 17) v,enc (.st 4) x_1,enc (.st 4) y] (ansK C K)=FV f0 f1 v x_1 y K:=by kernel_rfl
theorem loops:LoopsOk E tab (fun _=>none) 4 67:=loops_none _ _ _ _
theorem det (v:Verdict) (x_1:Hello) (y:Hello):Det (F v x_1 y):=by
 unfold F FV
 repeat' with_reducible first|exact det_ret _|refine det_cond _ ?_ ?_|refine det_bind (q181.det _) (fun _=>?_)|refine det_bind (q131.det _) (fun _=>?_)
theorem edet (a:List AV):Det (en a):=mkEntry_det (fun x:Dens A=>det x.1 x.2.1 x.2.2.1) a
theorem ground:Ground E tab:=⟨num,mixed,(tab_cons q181.sound (tab_cons q131.sound (tab_nil _))),clone,(dtab_cons q181.edet (dtab_cons q131.edet dtab_nil)),stab⟩
theorem sound:EntrySound E 67 en:=mkSound ground loops (by kernel_rfl) (fun (x:Dens A) K=>eqv q181.F q131.F x.1 x.2.1 x.2.2.1 K)
end q184
namespace q185
abbrev A:List Ty:=[(.st 1),(.int .u32)]
abbrev C:=(cTwo (.st 1) (.int .i64))
abbrev T:Type:=Disk->Int->((Disk×Int)->Prop)->Prop
noncomputable def tv (f0:q153.T) (f1:q150.T):Tab:=[(98,mkEntry q153.A q153.C fun x=>f0 x.1 x.2.1),(154,mkEntry q150.A q150.C fun x=>f1 x.1)]
noncomputable def tab:Tab:=tv q153.F q150.F
def FV (f0:q153.T) (f1:q150.T) (d:Disk) (m:Int) (K:(Disk×Int)->Prop):Prop:=
 (f0 d m fun r1=>(bif(r1.2 != 0)then(K (r1.1,r1.2))else(f1 r1.1 fun r2=>(K (r2.1,r2.2)))))
def F (d:Disk) (m:Int) (K:(Disk×Int)->Prop):Prop:=FV q153.F q150.F d m K
noncomputable def en:Entry:=mkEntry A C fun x=>F x.1 x.2.1
theorem eqv (f0:q153.T) (f1:q150.T) (d:Disk) (m:Int) (K:(Disk×Int)->Prop):apure E (tv f0 f1) (fun _=>none) 4 118 [enc (.st 1) d,enc (.int .u32) m] (ansK C K)=FV f0 f1 d m K:=by kernel_rfl
theorem loops:LoopsOk E tab (fun _=>none) 4 118:=loops_none _ _ _ _
theorem det (d:Disk) (m:Int):Det (F d m):=by
 unfold F FV
 repeat' with_reducible first|exact det_ret _|refine det_cond _ ?_ ?_|refine det_bind (q153.det _ _) (fun _=>?_)|refine det_bind (q150.det _) (fun _=>?_)
theorem edet (a:List AV):Det (en a):=mkEntry_det (fun x:Dens A=>det x.1 x.2.1) a
theorem ground:Ground E tab:=⟨num,mixed,(tab_cons q153.sound (tab_cons q150.sound (tab_nil _))),clone,(dtab_cons q153.edet (dtab_cons q150.edet dtab_nil)),stab⟩
theorem sound:EntrySound E 118 en:=mkSound ground loops (by kernel_rfl) (fun (x:Dens A) K=>eqv q153.F q150.F x.1 x.2.1 K)
end q185
namespace q186
abbrev A:List Ty:=[(.st 8),(.int .u32)]
abbrev C:=(cTwo (.st 8) (.int .i64))
abbrev T:Type:=Store->Int->((Store×Int)->Prop)->Prop
noncomputable def tv (f0:q181.T) (f1:q185.T):Tab:=[(117,mkEntry q181.A q181.C fun x=>f0 x.1),(118,mkEntry q185.A q185.C fun x=>f1 x.1 x.2.1)]
noncomputable def tab:Tab:=tv q181.F q185.F
def FV (f0:q181.T) (f1:q185.T) (s:Store) (m:Int) (K:(Store×Int)->Prop):Prop:=
 (f0 ([s.mask,m]:List Int) fun r1=>(bif(r1==s.mask)then(K (s,0))else(f1 s.disk r1 fun r2=>(bif(r2.2==0)then(K ((⟨r2.1,s.sup,r1⟩:Store),r2.2))else(K ((⟨r2.1,s.sup,s.mask⟩:Store),r2.2))))))
def F (s:Store) (m:Int) (K:(Store×Int)->Prop):Prop:=FV q181.F q185.F s m K
noncomputable def en:Entry:=mkEntry A C fun x=>F x.1 x.2.1
theorem eqv (f0:q181.T) (f1:q185.T) (s:Store) (m:Int) (K:(Store×Int)->Prop):apure E (tv f0 f1) (fun _=>none) 4 66 [enc (.st 8) s,enc (.int .u32) m] (ansK C K)=FV f0 f1 s m K:=by kernel_rfl
theorem loops:LoopsOk E tab (fun _=>none) 4 66:=loops_none _ _ _ _
theorem det (s:Store) (m:Int):Det (F s m):=by
 unfold F FV
 repeat' with_reducible first|exact det_ret _|refine det_cond _ ?_ ?_|refine det_bind (q181.det _) (fun _=>?_)|refine det_bind (q185.det _ _) (fun _=>?_)
theorem edet (a:List AV):Det (en a):=mkEntry_det (fun x:Dens A=>det x.1 x.2.1) a
theorem ground:Ground E tab:=⟨num,mixed,(tab_cons q181.sound (tab_cons q185.sound (tab_nil _))),clone,(dtab_cons q181.edet (dtab_cons q185.edet dtab_nil)),stab⟩
theorem sound:EntrySound E 66 en:=mkSound ground loops (by kernel_rfl) (fun (x:Dens A) K=>eqv q181.F q185.F x.1 x.2.1 K)
end q186
namespace q187
abbrev A:List Ty:=[(.st 2),(.int .u64)]
abbrev C:=(cTy (.st 2))
abbrev T:Type:=Vec->Int->(Vec->Prop)->Prop
noncomputable def tab:Tab:=[]
def F (v:Vec) (g:Int) (K:Vec->Prop):Prop:=
 (K (⟨v.current,g,v.old0,v.old1⟩:Vec))
noncomputable def en:Entry:=mkEntry A C fun x=>F x.1 x.2.1
theorem eqv (v:Vec) (g:Int) (K:Vec->Prop):apure E tab (fun _=>none) 4 120 [enc (.st 2) v,enc (.int .u64) g] (ansK C K)=F v g K:=by kernel_rfl
theorem loops:LoopsOk E tab (fun _=>none) 4 120:=loops_none _ _ _ _
theorem det (v:Vec) (g:Int):Det (F v g):=by
 unfold F
 repeat' with_reducible first|exact det_ret _
theorem edet (a:List AV):Det (en a):=mkEntry_det (fun x:Dens A=>det x.1 x.2.1) a
theorem ground:Ground E tab:=⟨num,mixed,(tab_nil _),clone,dtab_nil,stab⟩
theorem sound:EntrySound E 120 en:=mkSound ground loops (by kernel_rfl) (fun (x:Dens A) K=>eqv  x.1 x.2.1 K)
end q187
namespace q188
abbrev A:List Ty:=[(.st 13),(.st 4)]
abbrev C:=(cTwo (.st 13) (.slice (.st 11)))
abbrev T:Type:=Node->Hello->((Node×(List Outp))->Prop)->Prop
noncomputable def tv (f0:q168.T) (f1:q183.T) (f2:q155.T) (f3:q160.T) (f4:q151.T) (f5:q184.T) (f6:q186.T) (f7:q187.T) (f8:q161.T):Tab:=[(107,mkEntry q168.A q168.C fun x=>f0 x.1 x.2.1 x.2.2.1),(63,mkEntry q183.A q183.C fun x=>f1 x.1 x.2.1),(84,mkEntry q155.A q155.C fun x=>f2 x.1),(85,mkEntry q160.A q160.C fun x=>f3 x.1 x.2.1),(93,mkEntry q151.A q151.C fun x=>f4 x.1),(67,mkEntry q184.A q184.C fun x=>f5 x.1 x.2.1 x.2.2.1),(66,mkEntry q186.A q186.C fun x=>f6 x.1 x.2.1),(120,mkEntry q187.A q187.C fun x=>f7 x.1 x.2.1),(39,mkEntry q161.A q161.C fun x=>f8 x.1)]
noncomputable def tab:Tab:=tv q168.F q183.F q155.F q160.F q151.F q184.F q186.F q187.F q161.F
def FV (f0:q168.T) (f1:q183.T) (f2:q155.T) (f3:q160.T) (f4:q151.T) (f5:q184.T) (f6:q186.T) (f7:q187.T) (f8:q161.T) (n_0:Node) (h:Hello) (K:(Node×(List Outp))->Prop):Prop:=
 (f0 n_0.store.sup n_0.primary n_0.store.mask fun r1=>(bif(n_0.id==0)then(f1 r1 h fun r19=>(bif(r19.kind==4)then(bif(decide (([(⟨3,n_0.id,0,0,([]:Str)⟩:Outp)]:List Outp).length * 48≤room))then(K (n_0,([(⟨3,n_0.id,0,0,([]:Str)⟩:Outp)]:List Outp)))else False)else(bif(r19.kind==1)then(f2 n_0.store.sup.vector fun r20=>(f3 n_0.store (⟨n_0.store.sup.blocks,r20,n_0.store.sup.inc,n_0.primary,n_0.store.sup.dis⟩:Super) fun r21=>(bif(r21.2 != 0)then(f4 (⟨n_0.id,n_0.up,r21.1,n_0.primary,n_0.state,n_0.session,n_0.peer,n_0.peerPri,n_0.req,n_0.asking,n_0.askId,n_0.wanted,n_0.minted,n_0.draws,n_0.mints⟩:Node) fun r22=>(bif(r21.2==0)then(K ((⟨r22.id,r22.up,r22.store,r22.primary,2,r22.session,h,h.pri,r22.req,r22.asking,r22.askId,r22.wanted,r22.minted,r22.draws,r22.mints⟩:Node),([]:List Outp)))else(K (r22,([]:List Outp)))))else(bif(r21.2==0)then(K ((⟨n_0.id,n_0.up,r21.1,n_0.primary,2,n_0.session,h,h.pri,n_0.req,n_0.asking,n_0.askId,n_0.wanted,n_0.minted,n_0.draws,n_0.mints⟩:Node),([]:List Outp)))else(K ((⟨n_0.id,n_0.up,r21.1,n_0.primary,n_0.state,n_0.session,n_0.peer,n_0.peerPri,n_0.req,n_0.asking,n_0.askId,n_0.wanted,n_0.minted,n_0.draws,n_0.mints⟩:Node),([]:List Outp)))))))else(f5 r19 r1 h fun r23=>(f6 n_0.store r23 fun r24=>(bif(r24.2 != 0)then(f4 (⟨n_0.id,n_0.up,r24.1,n_0.primary,n_0.state,n_0.session,n_0.peer,n_0.peerPri,n_0.req,n_0.asking,n_0.askId,n_0.wanted,n_0.minted,n_0.draws,n_0.mints⟩:Node) fun r25=>(bif(!(r24.2==0))then(K (r25,([]:List Outp)))else(bif(r19.source==r25.id)then(K ((⟨r25.id,r25.up,r25.store,r25.primary,3,r25.session,h,h.pri,r25.req,r25.asking,r25.askId,r25.wanted,r25.minted,r25.draws,r25.mints⟩:Node),([]:List Outp)))else(f7 r25.store.sup.vector h.vector.current fun r26=>(f3 r25.store (⟨r25.store.sup.blocks,r26,true,false,r25.store.sup.dis⟩:Super) fun r27=>(bif(r27.2 != 0)then(f4 (⟨r25.id,r25.up,r27.1,r25.primary,r25.state,r25.session,r25.peer,r25.peerPri,r25.req,r25.asking,r25.askId,r25.wanted,r25.minted,r25.draws,r25.mints⟩:Node) fun r28=>(bif(!(r27.2==0))then(K (r28,([]:List Outp)))else(f8 (⟨r28.id,r28.up,r28.store,r28.primary,4,r28.session,h,h.pri,r28.req,r28.asking,r28.askId,r28.wanted,r28.minted,r28.draws,r28.mints⟩:Node) fun r29=>(K (r29.1,r29.2)))))else(bif(!(r27.2==0))then(K ((⟨r25.id,r25.up,r27.1,r25.primary,r25.state,r25.session,r25.peer,r25.peerPri,r25.req,r25.asking,r25.askId,r25.wanted,r25.minted,r25.draws,r25.mints⟩:Node),([]:List Outp)))else(f8 (⟨r25.id,r25.up,r27.1,r25.primary,4,r25.session,h,h.pri,r25.req,r25.asking,r25.askId,r25.wanted,r25.minted,r25.draws,r25.mints⟩:Node) fun r30=>(K (r30.1,r30.2))))))))))else(bif(!(r24.2==0))then(K ((⟨n_0.id,n_0.up,r24.1,n_0.primary,n_0.state,n_0.session,n_0.peer,n_0.peerPri,n_0.req,n_0.asking,n_0.askId,n_0.wanted,n_0.minted,n_0.draws,n_0.mints⟩:Node),([]:List Outp)))else(bif(r19.source==n_0.id)then(K ((⟨n_0.id,n_0.up,r24.1,n_0.primary,3,n_0.session,h,h.pri,n_0.req,n_0.asking,n_0.askId,n_0.wanted,n_0.minted,n_0.draws,n_0.mints⟩:Node),([]:List Outp)))else(f7 r24.1.sup.vector h.vector.current fun r31=>(f3 r24.1 (⟨r24.1.sup.blocks,r31,true,false,r24.1.sup.dis⟩:Super) fun r32=>(bif(r32.2 != 0)then(f4 (⟨n_0.id,n_0.up,r32.1,n_0.primary,n_0.state,n_0.session,n_0.peer,n_0.peerPri,n_0.req,n_0.asking,n_0.askId,n_0.wanted,n_0.minted,n_0.draws,n_0.mints⟩:Node) fun r33=>(bif(!(r32.2==0))then(K (r33,([]:List Outp)))else(f8 (⟨r33.id,r33.up,r33.store,r33.primary,4,r33.session,h,h.pri,r33.req,r33.asking,r33.askId,r33.wanted,r33.minted,r33.draws,r33.mints⟩:Node) fun r34=>(K (r34.1,r34.2)))))else(bif(!(r32.2==0))then(K ((⟨n_0.id,n_0.up,r32.1,n_0.primary,n_0.state,n_0.session,n_0.peer,n_0.peerPri,n_0.req,n_0.asking,n_0.askId,n_0.wanted,n_0.minted,n_0.draws,n_0.mints⟩:Node),([]:List Outp)))else(f8 (⟨n_0.id,n_0.up,r32.1,n_0.primary,4,n_0.session,h,h.pri,n_0.req,n_0.asking,n_0.askId,n_0.wanted,n_0.minted,n_0.draws,n_0.mints⟩:Node) fun r35=>(K (r35.1,r35.2)))))))))))))))else(bif(n_0.id==1)then(f1 h r1 fun r2=>(bif(r2.kind==4)then(bif(decide (([(⟨3,n_0.id,0,0,([]:Str)⟩:Outp)]:List Outp).length * 48≤room))then(K (n_0,([(⟨3,n_0.id,0,0,([]:Str)⟩:Outp)]:List Outp)))else False)else(bif(r2.kind==1)then(f2 n_0.store.sup.vector fun r3=>(f3 n_0.store (⟨n_0.store.sup.blocks,r3,n_0.store.sup.inc,n_0.primary,n_0.store.sup.dis⟩:Super) fun r4=>(bif(r4.2 != 0)then(f4 (⟨n_0.id,n_0.up,r4.1,n_0.primary,n_0.state,n_0.session,n_0.peer,n_0.peerPri,n_0.req,n_0.asking,n_0.askId,n_0.wanted,n_0.minted,n_0.draws,n_0.mints⟩:Node) fun r5=>(bif(r4.2==0)then(K ((⟨r5.id,r5.up,r5.store,r5.primary,2,r5.session,h,h.pri,r5.req,r5.asking,r5.askId,r5.wanted,r5.minted,r5.draws,r5.mints⟩:Node),([]:List Outp)))else(K (r5,([]:List Outp)))))else(bif(r4.2==0)then(K ((⟨n_0.id,n_0.up,r4.1,n_0.primary,2,n_0.session,h,h.pri,n_0.req,n_0.asking,n_0.askId,n_0.wanted,n_0.minted,n_0.draws,n_0.mints⟩:Node),([]:List Outp)))else(K ((⟨n_0.id,n_0.up,r4.1,n_0.primary,n_0.state,n_0.session,n_0.peer,n_0.peerPri,n_0.req,n_0.asking,n_0.askId,n_0.wanted,n_0.minted,n_0.draws,n_0.mints⟩:Node),([]:List Outp)))))))else(f5 r2 h r1 fun r6=>(f6 n_0.store r6 fun r7=>(bif(r7.2 != 0)then(f4 (⟨n_0.id,n_0.up,r7.1,n_0.primary,n_0.state,n_0.session,n_0.peer,n_0.peerPri,n_0.req,n_0.asking,n_0.askId,n_0.wanted,n_0.minted,n_0.draws,n_0.mints⟩:Node) fun r8=>(bif(!(r7.2==0))then(K (r8,([]:List Outp)))else(bif(r2.source==r8.id)then(K ((⟨r8.id,r8.up,r8.store,r8.primary,3,r8.session,h,h.pri,r8.req,r8.asking,r8.askId,r8.wanted,r8.minted,r8.draws,r8.mints⟩:Node),([]:List Outp)))else(f7 r8.store.sup.vector h.vector.current fun r9=>(f3 r8.store (⟨r8.store.sup.blocks,r9,true,false,r8.store.sup.dis⟩:Super) fun r10=>(bif(r10.2 != 0)then(f4 (⟨r8.id,r8.up,r10.1,r8.primary,r8.state,r8.session,r8.peer,r8.peerPri,r8.req,r8.asking,r8.askId,r8.wanted,r8.minted,r8.draws,r8.mints⟩:Node) fun r11=>(bif(!(r10.2==0))then(K (r11,([]:List Outp)))else(f8 (⟨r11.id,r11.up,r11.store,r11.primary,4,r11.session,h,h.pri,r11.req,r11.asking,r11.askId,r11.wanted,r11.minted,r11.draws,r11.mints⟩:Node) fun r12=>(K (r12.1,r12.2)))))else(bif(!(r10.2==0))then(K ((⟨r8.id,r8.up,r10.1,r8.primary,r8.state,r8.session,r8.peer,r8.peerPri,r8.req,r8.asking,r8.askId,r8.wanted,r8.minted,r8.draws,r8.mints⟩:Node),([]:List Outp)))else(f8 (⟨r8.id,r8.up,r10.1,r8.primary,4,r8.session,h,h.pri,r8.req,r8.asking,r8.askId,r8.wanted,r8.minted,r8.draws,r8.mints⟩:Node) fun r13=>(K (r13.1,r13.2))))))))))else(bif(!(r7.2==0))then(K ((⟨n_0.id,n_0.up,r7.1,n_0.primary,n_0.state,n_0.session,n_0.peer,n_0.peerPri,n_0.req,n_0.asking,n_0.askId,n_0.wanted,n_0.minted,n_0.draws,n_0.mints⟩:Node),([]:List Outp)))else(bif(r2.source==n_0.id)then(K ((⟨n_0.id,n_0.up,r7.1,n_0.primary,3,n_0.session,h,h.pri,n_0.req,n_0.asking,n_0.askId,n_0.wanted,n_0.minted,n_0.draws,n_0.mints⟩:Node),([]:List Outp)))else(f7 r7.1.sup.vector h.vector.current fun r14=>(f3 r7.1 (⟨r7.1.sup.blocks,r14,true,false,r7.1.sup.dis⟩:Super) fun r15=>(bif(r15.2 != 0)then(f4 (⟨n_0.id,n_0.up,r15.1,n_0.primary,n_0.state,n_0.session,n_0.peer,n_0.peerPri,n_0.req,n_0.asking,n_0.askId,n_0.wanted,n_0.minted,n_0.draws,n_0.mints⟩:Node) fun r16=>(bif(!(r15.2==0))then(K (r16,([]:List Outp)))else(f8 (⟨r16.id,r16.up,r16.store,r16.primary,4,r16.session,h,h.pri,r16.req,r16.asking,r16.askId,r16.wanted,r16.minted,r16.draws,r16.mints⟩:Node) fun r17=>(K (r17.1,r17.2)))))else(bif(!(r15.2==0))then(K ((⟨n_0.id,n_0.up,r15.1,n_0.primary,n_0.state,n_0.session,n_0.peer,n_0.peerPri,n_0.req,n_0.asking,n_0.askId,n_0.wanted,n_0.minted,n_0.draws,n_0.mints⟩:Node),([]:List Outp)))else(f8 (⟨n_0.id,n_0.up,r15.1,n_0.primary,4,n_0.session,h,h.pri,n_0.req,n_0.asking,n_0.askId,n_0.wanted,n_0.minted,n_0.draws,n_0.mints⟩:Node) fun r18=>(K (r18.1,r18.2)))))))))))))))else False)))
def F (n_0:Node) (h:Hello) (K:(Node×(List Outp))->Prop):Prop:=FV q168.F q183.F q155.F q160.F q151.F q184.F q186.F q187.F q161.F n_0 h K
noncomputable def en:Entry:=mkEntry A C fun x=>F x.1 x.2.1
theorem eqv (f0:q168.T) (f1:q183.T) (f2:q155.T) (f3:q160.T) (f4:q151.T) (f5:q184.T) (f6:q186.T) (f7:q187.T) (f8:q161.T) (n_0:Node) (h:Hello) (K:(Node×(List Outp))->Prop):apure E (tv f0 f1 f2 f3 f4 f5 f6 f7 f8) (fun _=>none) 4 25 [enc (.st 13) n_0,enc (.st 4) h] (ansK C K)=FV f0 f1 f2 f3 f4 f5 f6 f7 f8 n_0 h K:=by kernel_rfl
theorem loops:LoopsOk E tab (fun _=>none) 4 25:=loops_none _ _ _ _
theorem det (n_0:Node) (h:Hello):Det (F n_0 h):=by
 unfold F FV
 repeat' with_reducible first|exact det_ret _|exact det_false|refine det_cond _ ?_ ?_|refine det_bind (q168.det _ _ _) (fun _=>?_)|refine det_bind (q183.det _ _) (fun _=>?_)|refine det_bind (q155.det _) (fun _=>?_)|refine det_bind (q160.det _ _) (fun _=>?_)|refine det_bind (q151.det _) (fun _=>?_)|refine det_bind (q184.det _ _ _) (fun _=>?_)|refine det_bind (q186.det _ _) (fun _=>?_)|refine det_bind (q187.det _ _) (fun _=>?_)|refine det_bind (q161.det _) (fun _=>?_)
theorem edet (a:List AV):Det (en a):=mkEntry_det (fun x:Dens A=>det x.1 x.2.1) a
theorem ground:Ground E tab:=⟨num,mixed,(tab_cons q168.sound (tab_cons q183.sound (tab_cons q155.sound (tab_cons q160.sound (tab_cons q151.sound (tab_cons q184.sound (tab_cons q186.sound (tab_cons q187.sound (tab_cons q161.sound (tab_nil _)))))))))),clone,(dtab_cons q168.edet (dtab_cons q183.edet (dtab_cons q155.edet (dtab_cons q160.edet (dtab_cons q151.edet (dtab_cons q184.edet (dtab_cons q186.edet (dtab_cons q187.edet (dtab_cons q161.edet dtab_nil))))))))),stab⟩
theorem sound:EntrySound E 25 en:=mkSound ground loops (by kernel_rfl) (fun (x:Dens A) K=>eqv q168.F q183.F q155.F q160.F q151.F q184.F q186.F q187.F q161.F x.1 x.2.1 K)
end q188
end Gm
