/- Printed by a program (gen.py): the functions' answers, and that they are so. -/
import Derived.Test.YtlaijgoahmigmaaGreatDoorGdT5
set_option linter.unusedVariables false
set_option maxRecDepth 100000
noncomputable section
namespace Gm
open Go Go.Proofs
namespace q146
abbrev A:List Ty:=[(.int .i64)]
abbrev C:=(cTy (.slice (.int .i64)))
abbrev T:Type:=Int->((List Int)->Prop)->Prop
def tab:Tab:=[]
def F (kind:Int) (K:(List Int)->Prop):Prop:=
 (bif(kind==1)then(K ([1]:List Int))else(bif(kind==2)then(K ([2,4]:List Int))else(bif(kind==4)then(K ([2,4]:List Int))else(bif(kind==3)then(K ([2,3]:List Int))else(bif(kind==5)then(K ([3]:List Int))else(bif(kind==7)then(K ([3]:List Int))else(bif(kind==8)then(K ([3]:List Int))else(bif(kind==6)then(K ([4]:List Int))else(bif(kind==9)then(K ([4]:List Int))else(bif(kind==10)then(K ([2,3,4]:List Int))else(bif(kind==13)then(K ([2,3,4]:List Int))else(bif(kind==11)then(K ([2,3,4]:List Int))else(bif(kind==12)then(K ([2,3,4]:List Int))else(K ([]:List Int)))))))))))))))
def en:Entry:=mkEntry A C fun x=>F x.1
theorem eqv (kind:Int) (K:(List Int)->Prop):apure E tab (fun _=>none) 4 135 [enc (.int .i64) kind] (ansK C K)=F kind K:=by kernel_rfl
theorem loops:LoopsOk E tab (fun _=>none) 4 135:=lpn _ _ _ _
theorem det (kind:Int):Det (F kind):=by
 unfold F
 repeat' with_reducible first|exact det_ret _|refine det_cond _ ?_ ?_
theorem edet a:Det (en a):=mkD (fun x:Dens A=>det x.1) a
theorem ground:Ground E tab:=gnd (tab_nil _) dtn
theorem sound:EntrySound E 135 en:=mkSound ground loops (by kernel_rfl) (fun x K=>eqv  x.1 K)
end q146
namespace q147
abbrev A:List Ty:=[(.st 13),(.slice (.int .i64))]
abbrev C:=(cTy .bool)
abbrev T:Type:=Node->(List Int)->(Bool->Prop)->Prop
def tab:Tab:=[]
structure R where
 t4:Bool
def cR (x:R):St:={ fr:=lookL .top [(4,(.bool x.t4))],hs:={ hp:=lookL .dead [],hn:=1 } }
def kR:Keep:={ ks:=[(4,none)],bs:=[],hn:=1 }
structure L0 where
 t7:(List Int)
 t8:Int
 t9:Int
 m0:Node
def c0 (x:L0):St:={ fr:=lookL .top [(2,(.ptr 0 0)),(7,(.sl .any (.int .i64) x.t7)),(8,(.int .i64 x.t8)),(9,(.int .i64 x.t9))],hs:={ hp:=lookL .dead [(0,(.cells [(.int .i64 x.m0.id),(.bool x.m0.up),(.sl .any .str x.m0.store.disk.sure),(.sl .any (.st 0) x.m0.store.disk.cache),(.int .i64 x.m0.store.disk.fuse),(.bool x.m0.store.disk.dead),(.int .i64 x.m0.store.sup.blocks),(.int .u64 x.m0.store.sup.vector.current),(.int .u64 x.m0.store.sup.vector.bitmap),(.int .u64 x.m0.store.sup.vector.old0),(.int .u64 x.m0.store.sup.vector.old1),(.bool x.m0.store.sup.inc),(.bool x.m0.store.sup.pri),(.bool x.m0.store.sup.dis),(.int .u32 x.m0.store.mask),(.bool x.m0.primary),(.int .i64 x.m0.state),(.int .u64 x.m0.session),(.int .i64 x.m0.peer.blocks),(.int .u64 x.m0.peer.vector.current),(.int .u64 x.m0.peer.vector.bitmap),(.int .u64 x.m0.peer.vector.old0),(.int .u64 x.m0.peer.vector.old1),(.bool x.m0.peer.inc),(.bool x.m0.peer.was),(.bool x.m0.peer.dis),(.bool x.m0.peer.pri),(.int .u32 x.m0.peer.mask),(.bool x.m0.peerPri),(.bool x.m0.req.on),(.int .i64 x.m0.req.id),(.int .i64 x.m0.req.block),(.str x.m0.req.data),(.bool x.m0.asking),(.int .i64 x.m0.askId),(.int .i64 x.m0.wanted),(.bool x.m0.minted),(.sl .any (.int .u64) x.m0.draws),(.sl .any (.st 10) x.m0.mints)]))],hn:=1 } }
def kp0:Keep:={ ks:=[(2,none),(7,none),(8,none),(9,none)],bs:=[0],hn:=1,ts:=[(0,13)] }
def p0 (st:St) (K:L0->Prop):Prop:=gPtr 0 0 (st.fr 2) <| gSl .any (.int .i64) (st.fr 7) fun a1=>gInt .i64 (st.fr 8) fun a2=>gInt .i64 (st.fr 9) fun a3=>gBlkS 13 (st.hs.hp 0) fun a4=>K ⟨a1,a2,a3,a4⟩
set_option maxHeartbeats 4000000 in
theorem p0_ok (st:St) (K:L0->Prop) (h:p0 st K):∃ x,keepSt kp0 st=c0 x∧K x:=by
 obtain ⟨h0,h⟩:=gPtr_elim h
 obtain ⟨a1,h1,h⟩:=gSl_elim h
 obtain ⟨a2,h2,h⟩:=gInt_elim h
 obtain ⟨a3,h3,h⟩:=gInt_elim h
 obtain ⟨z4,a4,h4,y4,h⟩:=gBlkS_elim h
 have q4:∀ ok,keptB kp0 ok 0 (.cells z4)=.cells (encS 13 a4):=fun _=>y4
 simp only [kp0] at q4
 refine⟨_,?_,h⟩
 simp only [keepSt,kp0,List.map,h0,h1,h2,h3,h4,q4]
 rfl
def b0 (rec kx:L0->Prop) (kr:R->Prop) (x:L0):Prop:=
 (bif(decide (x.t9 < x.t8))then(oget (getI x.t7 x.t9) fun v1=>(bif(x.m0.state==v1)then(kr ⟨true⟩)else(rec ⟨x.t7,x.t8,(IntKind.i64.wrap (x.t9+1)),x.m0⟩)))else(kx ⟨x.t7,x.t8,x.t9,x.m0⟩))
def lt:Nat->Option LSpec
 | 0=>some (mkLoop 0 kp0 kR p0 c0 cR b0)
 | _=>none
def F (n_0:Node) (l:(List Int)) (K:Bool->Prop):Prop:=
 (∃ n,loopB b0 n (fun x2=>(K false)) (fun r3=>(K r3.t4)) ⟨l,(l.length:Int),0,n_0⟩)
def en:Entry:=mkEntry A C fun x=>F x.1 x.2.1
theorem eqv (n_0:Node) (l:(List Int)) (K:Bool->Prop):apure E tab lt 4 134 [enc (.st 13) n_0,enc (.slice (.int .i64)) l] (ansK C K)=F n_0 l K:=by kernel_rfl
theorem l0v (R:St->Prop) (Kx:Nat->St->Prop) (Kr:St->Prop) (x:L0):acode E tab (afun E tab 4) 18 lt ((loopsIn E.P 134).getD 0 (0,.skip)).2 0 (fun s=>R (keepSt kp0 s)) (fun j s=>Kx j (keepSt kp0 s)) (fun s=>Kr (keepSt kR s)) (c0 x)=b0 (fun x=>R (c0 x)) (fun x=>Kx 0 (c0 x)) (fun r=>Kr (cR r)) x:=by kernel_rfl
theorem l0_ok:LSound E tab (afun E tab 4) 18 lt 0 ((loopsIn E.P 134).getD 0 (0,.skip)).2 (mkLoop 0 kp0 kR p0 c0 cR b0):=mkLoop_sound (by decide) (by decide) p0_ok (fun R Kx Kr x=>l0v  R Kx Kr x)
theorem loops:LoopsOk E tab lt 4 134:=loops_of (nt:=18) (ids:=[0]) (by kernel_rfl) (by kernel_rfl) (by
 intro k i hk l hl
 match k,hk with
 | 0,hk=>cases hk;cases hl;exact l0_ok
 | _+1,hk=>exact absurd hk (by simp))
theorem det (n_0:Node) (l:(List Int)):Det (F n_0 l):=by
 unfold F
 repeat' with_reducible first|exact det_ret _|refine det_cond _ ?_ ?_|refine det_oget _ (fun _=>?_)|refine det_loop (fun _=>?_) (fun _=>?_) (fun _=>?_) _ | unfold b0
theorem edet a:Det (en a):=mkD (fun x:Dens A=>det x.1 x.2.1) a
theorem ground:Ground E tab:=gnd (tab_nil _) dtn
theorem sound:EntrySound E 134 en:=mkSound ground loops (by kernel_rfl) (fun x K=>eqv  x.1 x.2.1 K)
end q147
namespace q148
abbrev A:List Ty:=[(.st 13),(.st 5)]
abbrev C:=(cTy .bool)
abbrev T:Type:=Node->Packet->(Bool->Prop)->Prop
def tv (f0:q145.T) (f1:q146.T) (f2:q147.T):Tab:=[(133,mkEntry q145.A q145.C fun x=>f0 x.1),(135,mkEntry q146.A q146.C fun x=>f1 x.1),(134,mkEntry q147.A q147.C fun x=>f2 x.1 x.2.1)]
def tab:Tab:=tv q145.F q146.F q147.F
def FV (f0:q145.T) (f1:q146.T) (f2:q147.T) (n_0:Node) (p:Packet) (K:Bool->Prop):Prop:=
 (bif(!n_0.up)then(K false)else(f0 p.kind fun r1=>(bif r1 then(bif(decide (p.block≥n_0.store.sup.blocks))then(K false)else(f1 p.kind fun r2=>(f2 n_0 r2 fun r3=>(bif(!r3)then(K false)else(bif(p.kind==2)then(K (!n_0.primary))else(bif(p.kind==9)then(K (!n_0.store.sup.inc))else(bif(p.kind==11)then(K n_0.asking)else(bif(p.kind==12)then(K n_0.asking)else(K true)))))))))else(f1 p.kind fun r4=>(f2 n_0 r4 fun r5=>(bif(!r5)then(K false)else(bif(p.kind==2)then(K (!n_0.primary))else(bif(p.kind==9)then(K (!n_0.store.sup.inc))else(bif(p.kind==11)then(K n_0.asking)else(bif(p.kind==12)then(K n_0.asking)else(K true)))))))))))
def F (n_0:Node) (p:Packet) (K:Bool->Prop):Prop:=FV q145.F q146.F q147.F n_0 p K
def en:Entry:=mkEntry A C fun x=>F x.1 x.2.1
theorem eqv (f0:q145.T) (f1:q146.T) (f2:q147.T) (n_0:Node) (p:Packet) (K:Bool->Prop):apure E (tv f0 f1 f2) (fun _=>none) 4 79 [enc (.st 13) n_0,enc (.st 5) p] (ansK C K)=FV f0 f1 f2 n_0 p K:=by kernel_rfl
theorem loops:LoopsOk E tab (fun _=>none) 4 79:=lpn _ _ _ _
theorem det (n_0:Node) (p:Packet):Det (F n_0 p):=by
 unfold F FV
 repeat' with_reducible first|exact det_ret _|refine det_cond _ ?_ ?_|refine det_bind (q145.det _) (fun _=>?_)|refine det_bind (q146.det _) (fun _=>?_)|refine det_bind (q147.det _ _) (fun _=>?_)
theorem edet a:Det (en a):=mkD (fun x:Dens A=>det x.1 x.2.1) a
theorem ground:Ground E tab:=gnd (tbc q145.sound (tbc q146.sound (tbc q147.sound (tab_nil _)))) (dtc q145.edet (dtc q146.edet (dtc q147.edet dtn)))
theorem sound:EntrySound E 79 en:=mkSound ground loops (by kernel_rfl) (fun x K=>eqv q145.F q146.F q147.F x.1 x.2.1 K)
end q148
namespace q149
abbrev A:List Ty:=[(.st 3),.bool,(.int .u32)]
abbrev C:=(cTy (.st 4))
abbrev T:Type:=Super->Bool->Int->(Hello->Prop)->Prop
def tab:Tab:=[]
def F (s:Super) (primary:Bool) (m:Int) (K:Hello->Prop):Prop:=
 (bif s.pri then(K (⟨s.blocks,s.vector,s.inc,(!primary),s.dis,primary,m⟩:Hello))else(K (⟨s.blocks,s.vector,s.inc,false,s.dis,primary,m⟩:Hello)))
def en:Entry:=mkEntry A C fun x=>F x.1 x.2.1 x.2.2.1
theorem eqv (s:Super) (primary:Bool) (m:Int) (K:Hello->Prop):apure E tab (fun _=>none) 4 107 [enc (.st 3) s,enc .bool primary,enc (.int .u32) m] (ansK C K)=F s primary m K:=by kernel_rfl
theorem loops:LoopsOk E tab (fun _=>none) 4 107:=lpn _ _ _ _
theorem det (s:Super) (primary:Bool) (m:Int):Det (F s primary m):=by
 unfold F
 repeat' with_reducible first|exact det_ret _|refine det_cond _ ?_ ?_
theorem edet a:Det (en a):=mkD (fun x:Dens A=>det x.1 x.2.1 x.2.2.1) a
theorem ground:Ground E tab:=gnd (tab_nil _) dtn
theorem sound:EntrySound E 107 en:=mkSound ground loops (by kernel_rfl) (fun x K=>eqv  x.1 x.2.1 x.2.2.1 K)
end q149
namespace q150
abbrev A:List Ty:=[]
abbrev C:=(cTy (.st 17))
abbrev T:Type:=(Verdict->Prop)->Prop
def tab:Tab:=[]
def F (K:Verdict->Prop):Prop:=
 (K (⟨4,(-1)⟩:Verdict))
def en:Entry:=mkEntry A C fun _=>F
theorem eqv (K:Verdict->Prop):apure E tab (fun _=>none) 4 110 [] (ansK C K)=F K:=by kernel_rfl
theorem loops:LoopsOk E tab (fun _=>none) 4 110:=lpn _ _ _ _
theorem det:Det (F):=by
 unfold F
 repeat' with_reducible first|exact det_ret _
theorem edet a:Det (en a):=mkD (fun _:Dens A=>det) a
theorem ground:Ground E tab:=gnd (tab_nil _) dtn
theorem sound:EntrySound E 110 en:=mkSound ground loops (by kernel_rfl) (fun _ K=>eqv  K)
end q150
namespace q151
abbrev A:List Ty:=[.bool,.bool]
abbrev C:=(cTy (.int .i64))
abbrev T:Type:=Bool->Bool->(Int->Prop)->Prop
def tab:Tab:=[]
def F (x_0:Bool) (y:Bool) (K:Int->Prop):Prop:=
 (bif x_0 then(bif(!y)then(K 0)else(bif y then(bif(!x_0)then(K 1)else(K (-1)))else(K (-1))))else(bif y then(bif(!x_0)then(K 1)else(K (-1)))else(K (-1))))
def en:Entry:=mkEntry A C fun x=>F x.1 x.2.1
theorem eqv (x_0:Bool) (y:Bool) (K:Int->Prop):apure E tab (fun _=>none) 4 111 [enc .bool x_0,enc .bool y] (ansK C K)=F x_0 y K:=by kernel_rfl
theorem loops:LoopsOk E tab (fun _=>none) 4 111:=lpn _ _ _ _
theorem det (x_0:Bool) (y:Bool):Det (F x_0 y):=by
 unfold F
 repeat' with_reducible first|exact det_ret _|refine det_cond _ ?_ ?_
theorem edet a:Det (en a):=mkD (fun x:Dens A=>det x.1 x.2.1) a
theorem ground:Ground E tab:=gnd (tab_nil _) dtn
theorem sound:EntrySound E 111 en:=mkSound ground loops (by kernel_rfl) (fun x K=>eqv  x.1 x.2.1 K)
end q151
namespace q152
abbrev A:List Ty:=[(.st 19)]
abbrev C:=(cTy (.st 4))
abbrev T:Type:=PairH->(Hello->Prop)->Prop
def tab:Tab:=[]
def F (p:PairH) (K:Hello->Prop):Prop:=
 (bif(p.source==0)then(K p.h0)else(bif(p.source==1)then(K p.h1)else False))
def en:Entry:=mkEntry A C fun x=>F x.1
theorem eqv (p:PairH) (K:Hello->Prop):apure E tab (fun _=>none) 4 169 [enc (.st 19) p] (ansK C K)=F p K:=by kernel_rfl
theorem loops:LoopsOk E tab (fun _=>none) 4 169:=lpn _ _ _ _
theorem det (p:PairH):Det (F p):=by
 unfold F
 repeat' with_reducible first|exact det_ret _|exact det_false|refine det_cond _ ?_ ?_
theorem edet a:Det (en a):=mkD (fun x:Dens A=>det x.1) a
theorem ground:Ground E tab:=gnd (tab_nil _) dtn
theorem sound:EntrySound E 169 en:=mkSound ground loops (by kernel_rfl) (fun x K=>eqv  x.1 K)
end q152
namespace q153
abbrev A:List Ty:=[(.st 19)]
abbrev C:=(cTy (.st 4))
abbrev T:Type:=PairH->(Hello->Prop)->Prop
def tab:Tab:=[]
def F (p:PairH) (K:Hello->Prop):Prop:=
 (bif((IntKind.i64.wrap (1 - p.source))==0)then(K p.h0)else(bif((IntKind.i64.wrap (1 - p.source))==1)then(K p.h1)else False))
def en:Entry:=mkEntry A C fun x=>F x.1
theorem eqv (p:PairH) (K:Hello->Prop):apure E tab (fun _=>none) 4 168 [enc (.st 19) p] (ansK C K)=F p K:=by kernel_rfl
theorem loops:LoopsOk E tab (fun _=>none) 4 168:=lpn _ _ _ _
theorem det (p:PairH):Det (F p):=by
 unfold F
 repeat' with_reducible first|exact det_ret _|exact det_false|refine det_cond _ ?_ ?_
theorem edet a:Det (en a):=mkD (fun x:Dens A=>det x.1) a
theorem ground:Ground E tab:=gnd (tab_nil _) dtn
theorem sound:EntrySound E 168 en:=mkSound ground loops (by kernel_rfl) (fun x K=>eqv  x.1 K)
end q153
namespace q154
abbrev A:List Ty:=[(.slice (.int .u64)),(.int .u64)]
abbrev C:=(cTy (.int .i64))
abbrev T:Type:=(List Int)->Int->(Int->Prop)->Prop
def tab:Tab:=[]
structure R where
 t4:Int
def cR (x:R):St:={ fr:=lookL .top [(4,(.int .i64 x.t4))],hs:={ hp:=lookL .dead [],hn:=0 } }
def kR:Keep:={ ks:=[(4,none)],bs:=[],hn:=0 }
structure L0 where
 s:(List Int)
 v:Int
 t7:Int
 t8:Int
def c0 (x:L0):St:={ fr:=lookL .top [(0,(.sl .any (.int .u64) x.s)),(1,(.int .u64 x.v)),(7,(.int .i64 x.t7)),(8,(.int .i64 x.t8))],hs:={ hp:=lookL .dead [],hn:=0 } }
def kp0:Keep:={ ks:=[(0,none),(1,none),(7,none),(8,none)],bs:=[],hn:=0 }
def p0 (st:St) (K:L0->Prop):Prop:=gSl .any (.int .u64) (st.fr 0) fun a1=>gInt .u64 (st.fr 1) fun a2=>gInt .i64 (st.fr 7) fun a3=>gInt .i64 (st.fr 8) fun a4=>K ⟨a1,a2,a3,a4⟩
set_option maxHeartbeats 4000000 in
theorem p0_ok (st:St) (K:L0->Prop) (h:p0 st K):∃ x,keepSt kp0 st=c0 x∧K x:=by
 obtain ⟨a1,h0,h⟩:=gSl_elim h
 obtain ⟨a2,h1,h⟩:=gInt_elim h
 obtain ⟨a3,h2,h⟩:=gInt_elim h
 obtain ⟨a4,h3,h⟩:=gInt_elim h
 refine⟨_,?_,h⟩
 simp only [keepSt,kp0,List.map,h0,h1,h2,h3]
 rfl
def b0 (rec kx:L0->Prop) (kr:R->Prop) (x:L0):Prop:=
 (bif(decide (x.t8 < x.t7))then(oget (getI x.s x.t8) fun v1=>(bif(x.v==v1)then(kr ⟨x.t8⟩)else(rec ⟨x.s,x.v,x.t7,(IntKind.i64.wrap (x.t8+1))⟩)))else(kx ⟨x.s,x.v,x.t7,x.t8⟩))
def lt:Nat->Option LSpec
 | 0=>some (mkLoop 0 kp0 kR p0 c0 cR b0)
 | _=>none
def F (s:(List Int)) (v:Int) (K:Int->Prop):Prop:=
 (∃ n,loopB b0 n (fun x2=>(K (-1))) (fun r3=>(K r3.t4)) ⟨s,v,(s.length:Int),0⟩)
def en:Entry:=mkEntry A C fun x=>F x.1 x.2.1
theorem eqv (s:(List Int)) (v:Int) (K:Int->Prop):apure E tab lt 4 223 [enc (.slice (.int .u64)) s,enc (.int .u64) v] (ansK C K)=F s v K:=by kernel_rfl
theorem l0v (R:St->Prop) (Kx:Nat->St->Prop) (Kr:St->Prop) (x:L0):acode E tab (afun E tab 4) 19 lt ((loopsIn E.P 223).getD 0 (0,.skip)).2 0 (fun s=>R (keepSt kp0 s)) (fun j s=>Kx j (keepSt kp0 s)) (fun s=>Kr (keepSt kR s)) (c0 x)=b0 (fun x=>R (c0 x)) (fun x=>Kx 0 (c0 x)) (fun r=>Kr (cR r)) x:=by kernel_rfl
theorem l0_ok:LSound E tab (afun E tab 4) 19 lt 0 ((loopsIn E.P 223).getD 0 (0,.skip)).2 (mkLoop 0 kp0 kR p0 c0 cR b0):=mkLoop_sound (by decide) (by decide) p0_ok (fun R Kx Kr x=>l0v  R Kx Kr x)
theorem loops:LoopsOk E tab lt 4 223:=loops_of (nt:=19) (ids:=[0]) (by kernel_rfl) (by kernel_rfl) (by
 intro k i hk l hl
 match k,hk with
 | 0,hk=>cases hk;cases hl;exact l0_ok
 | _+1,hk=>exact absurd hk (by simp))
theorem det (s:(List Int)) (v:Int):Det (F s v):=by
 unfold F
 repeat' with_reducible first|exact det_ret _|refine det_cond _ ?_ ?_|refine det_oget _ (fun _=>?_)|refine det_loop (fun _=>?_) (fun _=>?_) (fun _=>?_) _ | unfold b0
theorem edet a:Det (en a):=mkD (fun x:Dens A=>det x.1 x.2.1) a
theorem ground:Ground E tab:=gnd (tab_nil _) dtn
theorem sound:EntrySound E 223 en:=mkSound ground loops (by kernel_rfl) (fun x K=>eqv  x.1 x.2.1 K)
end q154
namespace q155
abbrev A:List Ty:=[(.st 2),(.int .u64)]
abbrev C:=(cTy (.int .i64))
abbrev T:Type:=Vec->Int->(Int->Prop)->Prop
def tv (f0:q154.T):Tab:=[(223,mkEntry q154.A q154.C fun x=>f0 x.1 x.2.1)]
def tab:Tab:=tv q154.F
def FV (f0:q154.T) (v:Vec) (g:Int) (K:Int->Prop):Prop:=
 (bif(g==0)then(K (-1))else(f0 ([v.current,v.bitmap,v.old0,v.old1]:List Int) g fun r1=>(K r1)))
def F (v:Vec) (g:Int) (K:Int->Prop):Prop:=FV q154.F v g K
def en:Entry:=mkEntry A C fun x=>F x.1 x.2.1
theorem eqv (f0:q154.T) (v:Vec) (g:Int) (K:Int->Prop):apure E (tv f0) (fun _=>none) 4 172 [enc (.st 2) v,enc (.int .u64) g] (ansK C K)=FV f0 v g K:=by kernel_rfl
theorem loops:LoopsOk E tab (fun _=>none) 4 172:=lpn _ _ _ _
theorem det (v:Vec) (g:Int):Det (F v g):=by
 unfold F FV
 repeat' with_reducible first|exact det_ret _|refine det_cond _ ?_ ?_|refine det_bind (q154.det _ _) (fun _=>?_)
theorem edet a:Det (en a):=mkD (fun x:Dens A=>det x.1 x.2.1) a
theorem ground:Ground E tab:=gnd (tbc q154.sound (tab_nil _)) (dtc q154.edet dtn)
theorem sound:EntrySound E 172 en:=mkSound ground loops (by kernel_rfl) (fun x K=>eqv q154.F x.1 x.2.1 K)
end q155
namespace q156
abbrev A:List Ty:=[(.st 2),(.slice (.int .u64))]
abbrev C:=(cTy .bool)
abbrev T:Type:=Vec->(List Int)->(Bool->Prop)->Prop
def tv (f0:q155.T):Tab:=[(172,mkEntry q155.A q155.C fun x=>f0 x.1 x.2.1)]
def tab:Tab:=tv q155.F
def FV (f0:q155.T) (v:Vec) (l:(List Int)) (K:Bool->Prop):Prop:=
 (bif(decide (0 < (l.length:Int)))then(oget (getI l 0) fun v1=>(f0 v v1 fun r2=>(bif(decide (r2 < 0))then(K false)else(bif(decide (1 < (l.length:Int)))then(oget (getI l 1) fun v3=>(f0 v v3 fun r4=>(bif(decide (r4 < 0))then(K false)else(bif(decide (2 < (l.length:Int)))then(oget (getI l 2) fun v5=>(f0 v v5 fun r6=>(bif(decide (r6 < 0))then(K false)else(bif(decide (3 < (l.length:Int)))then(oget (getI l 3) fun v7=>(f0 v v7 fun r8=>(bif(decide (r8 < 0))then(K false)else(bif(decide (4 < (l.length:Int)))then(oget (getI l 4) fun v9=>(f0 v v9 fun r10=>(bif(decide (r10 < 0))then(K false)else(bif(decide (5 < (l.length:Int)))then(oget (getI l 5) fun v11=>(f0 v v11 fun r12=>(bif(decide (r12 < 0))then(K false)else(bif(decide (6 < (l.length:Int)))then(oget (getI l 6) fun v13=>(f0 v v13 fun r14=>(bif(decide (r14 < 0))then(K false)else(bif(decide (7 < (l.length:Int)))then(oget (getI l 7) fun v15=>(f0 v v15 fun r16=>(bif(decide (r16 < 0))then(K false)else(bif(decide (8 < (l.length:Int)))then(oget (getI l 8) fun v17=>(f0 v v17 fun r18=>(bif(decide (r18 < 0))then(K false)else(bif(decide (9 < (l.length:Int)))then(oget (getI l 9) fun v19=>(f0 v v19 fun r20=>(bif(decide (r20 < 0))then(K false)else(bif(decide (10 < (l.length:Int)))then(oget (getI l 10) fun v21=>(f0 v v21 fun r22=>(bif(decide (r22 < 0))then(K false)else(bif(decide (11 < (l.length:Int)))then(oget (getI l 11) fun v23=>(f0 v v23 fun r24=>(bif(decide (r24 < 0))then(K false)else False)))else(K true)))))else(K true)))))else(K true)))))else(K true)))))else(K true)))))else(K true)))))else(K true)))))else(K true)))))else(K true)))))else(K true)))))else(K true)))))else(K true))
def F (v:Vec) (l:(List Int)) (K:Bool->Prop):Prop:=FV q155.F v l K
def en:Entry:=mkEntry A C fun x=>F x.1 x.2.1
theorem eqv (f0:q155.T) (v:Vec) (l:(List Int)) (K:Bool->Prop):apure E (tv f0) (fun _=>none) 4 115 [enc (.st 2) v,enc (.slice (.int .u64)) l] (ansK C K)=FV f0 v l K:=by kernel_rfl
theorem loops:LoopsOk E tab (fun _=>none) 4 115:=lpn _ _ _ _
theorem det (v:Vec) (l:(List Int)):Det (F v l):=by
 unfold F FV
 repeat' with_reducible first|exact det_ret _|exact det_false|refine det_cond _ ?_ ?_|refine det_oget _ (fun _=>?_)|refine det_bind (q155.det _ _) (fun _=>?_)
theorem edet a:Det (en a):=mkD (fun x:Dens A=>det x.1 x.2.1) a
theorem ground:Ground E tab:=gnd (tbc q155.sound (tab_nil _)) (dtc q155.edet dtn)
theorem sound:EntrySound E 115 en:=mkSound ground loops (by kernel_rfl) (fun x K=>eqv q155.F x.1 x.2.1 K)
end q156
namespace q157
abbrev A:List Ty:=[(.st 19)]
abbrev C:=(cTy (.int .i64))
abbrev T:Type:=PairH->(Int->Prop)->Prop
def tv (f0:q152.T) (f1:q153.T) (f2:q155.T):Tab:=[(169,mkEntry q152.A q152.C fun x=>f0 x.1),(168,mkEntry q153.A q153.C fun x=>f1 x.1),(172,mkEntry q155.A q155.C fun x=>f2 x.1 x.2.1)]
def tab:Tab:=tv q152.F q153.F q155.F
def FV (f0:q152.T) (f1:q153.T) (f2:q155.T) (p:PairH) (K:Int->Prop):Prop:=
 (f0 p fun r1=>(f1 p fun r2=>(f2 r1.vector r2.vector.current fun r3=>(bif(r3==2)then(K 3)else(bif(r3==3)then(K 3)else(bif(r3==0)then(K 2)else(bif(r3==1)then(K 2)else(K 4))))))))
def F (p:PairH) (K:Int->Prop):Prop:=FV q152.F q153.F q155.F p K
def en:Entry:=mkEntry A C fun x=>F x.1
theorem eqv (f0:q152.T) (f1:q153.T) (f2:q155.T) (p:PairH) (K:Int->Prop):apure E (tv f0 f1 f2) (fun _=>none) 4 116 [enc (.st 19) p] (ansK C K)=FV f0 f1 f2 p K:=by kernel_rfl
theorem loops:LoopsOk E tab (fun _=>none) 4 116:=lpn _ _ _ _
theorem det (p:PairH):Det (F p):=by
 unfold F FV
 repeat' with_reducible first|exact det_ret _|refine det_cond _ ?_ ?_|refine det_bind (q152.det _) (fun _=>?_)|refine det_bind (q153.det _) (fun _=>?_)|refine det_bind (q155.det _ _) (fun _=>?_)
theorem edet a:Det (en a):=mkD (fun x:Dens A=>det x.1) a
theorem ground:Ground E tab:=gnd (tbc q152.sound (tbc q153.sound (tbc q155.sound (tab_nil _)))) (dtc q152.edet (dtc q153.edet (dtc q155.edet dtn)))
theorem sound:EntrySound E 116 en:=mkSound ground loops (by kernel_rfl) (fun x K=>eqv q152.F q153.F q155.F x.1 K)
end q157
namespace q158
abbrev A:List Ty:=[(.st 19)]
abbrev C:=(cTy (.int .i64))
abbrev T:Type:=PairH->(Int->Prop)->Prop
def tv (f0:q152.T) (f1:q153.T) (f2:q156.T) (f3:q157.T):Tab:=[(169,mkEntry q152.A q152.C fun x=>f0 x.1),(168,mkEntry q153.A q153.C fun x=>f1 x.1),(115,mkEntry q156.A q156.C fun x=>f2 x.1 x.2.1),(116,mkEntry q157.A q157.C fun x=>f3 x.1)]
def tab:Tab:=tv q152.F q153.F q156.F q157.F
def FV (f0:q152.T) (f1:q153.T) (f2:q156.T) (f3:q157.T) (p:PairH) (K:Int->Prop):Prop:=
 (f0 p fun r1=>(f1 p fun r2=>(bif r1.dis then(K 4)else(f2 r1.vector ([r2.vector.bitmap]:List Int) fun r3=>(bif r3 then(K 2)else(bif r2.dis then(K 3)else(f3 p fun r4=>(K r4))))))))
def F (p:PairH) (K:Int->Prop):Prop:=FV q152.F q153.F q156.F q157.F p K
def en:Entry:=mkEntry A C fun x=>F x.1
theorem eqv (f0:q152.T) (f1:q153.T) (f2:q156.T) (f3:q157.T) (p:PairH) (K:Int->Prop):apure E (tv f0 f1 f2 f3) (fun _=>none) 4 113 [enc (.st 19) p] (ansK C K)=FV f0 f1 f2 f3 p K:=by kernel_rfl
theorem loops:LoopsOk E tab (fun _=>none) 4 113:=lpn _ _ _ _
theorem det (p:PairH):Det (F p):=by
 unfold F FV
 repeat' with_reducible first|exact det_ret _|refine det_cond _ ?_ ?_|refine det_bind (q152.det _) (fun _=>?_)|refine det_bind (q153.det _) (fun _=>?_)|refine det_bind (q156.det _ _) (fun _=>?_)|refine det_bind (q157.det _) (fun _=>?_)
theorem edet a:Det (en a):=mkD (fun x:Dens A=>det x.1) a
theorem ground:Ground E tab:=gnd (tbc q152.sound (tbc q153.sound (tbc q156.sound (tbc q157.sound (tab_nil _))))) (dtc q152.edet (dtc q153.edet (dtc q156.edet (dtc q157.edet dtn))))
theorem sound:EntrySound E 113 en:=mkSound ground loops (by kernel_rfl) (fun x K=>eqv q152.F q153.F q156.F q157.F x.1 K)
end q158
namespace q159
abbrev A:List Ty:=[(.st 19),(.int .i64)]
abbrev C:=(cTy (.st 17))
abbrev T:Type:=PairH->Int->(Verdict->Prop)->Prop
def tv (f0:q150.T) (f1:q153.T):Tab:=[(110,mkEntry q150.A q150.C fun _=>f0),(168,mkEntry q153.A q153.C fun x=>f1 x.1)]
def tab:Tab:=tv q150.F q153.F
def FV (f0:q150.T) (f1:q153.T) (p:PairH) (kind:Int) (K:Verdict->Prop):Prop:=
 (bif(kind==4)then(f0 fun r1=>(K r1))else(f1 p fun r2=>(bif r2.pri then(f0 fun r3=>(K r3))else(K (⟨kind,p.source⟩:Verdict)))))
def F (p:PairH) (kind:Int) (K:Verdict->Prop):Prop:=FV q150.F q153.F p kind K
def en:Entry:=mkEntry A C fun x=>F x.1 x.2.1
theorem eqv (f0:q150.T) (f1:q153.T) (p:PairH) (kind:Int) (K:Verdict->Prop):apure E (tv f0 f1) (fun _=>none) 4 112 [enc (.st 19) p,enc (.int .i64) kind] (ansK C K)=FV f0 f1 p kind K:=by kernel_rfl
theorem loops:LoopsOk E tab (fun _=>none) 4 112:=lpn _ _ _ _
theorem det (p:PairH) (kind:Int):Det (F p kind):=by
 unfold F FV
 repeat' with_reducible first|exact det_ret _|refine det_cond _ ?_ ?_|refine det_bind (q150.det) (fun _=>?_)|refine det_bind (q153.det _) (fun _=>?_)
theorem edet a:Det (en a):=mkD (fun x:Dens A=>det x.1 x.2.1) a
theorem ground:Ground E tab:=gnd (tbc q150.sound (tbc q153.sound (tab_nil _))) (dtc q150.edet (dtc q153.edet dtn))
theorem sound:EntrySound E 112 en:=mkSound ground loops (by kernel_rfl) (fun x K=>eqv q150.F q153.F x.1 x.2.1 K)
end q159
namespace q160
abbrev A:List Ty:=[(.slice (.int .u32))]
abbrev C:=(cTy (.int .u32))
abbrev T:Type:=(List Int)->(Int->Prop)->Prop
def tab:Tab:=[]
structure R where
def cR (_:R):St:={ fr:=fun _=>.top,hs:=hs0 }
def kR:Keep:={ ks:=[],bs:=[],hn:=0 }
structure L0 where
 m:Int
 t5:(List Int)
 t6:Int
 t7:Int
def c0 (x:L0):St:={ fr:=lookL .top [(2,(.int .u32 x.m)),(5,(.sl .any (.int .u32) x.t5)),(6,(.int .i64 x.t6)),(7,(.int .i64 x.t7))],hs:={ hp:=lookL .dead [],hn:=0 } }
def kp0:Keep:={ ks:=[(2,none),(5,none),(6,none),(7,none)],bs:=[],hn:=0 }
def p0 (st:St) (K:L0->Prop):Prop:=gInt .u32 (st.fr 2) fun a1=>gSl .any (.int .u32) (st.fr 5) fun a2=>gInt .i64 (st.fr 6) fun a3=>gInt .i64 (st.fr 7) fun a4=>K ⟨a1,a2,a3,a4⟩
set_option maxHeartbeats 4000000 in
theorem p0_ok (st:St) (K:L0->Prop) (h:p0 st K):∃ x,keepSt kp0 st=c0 x∧K x:=by
 obtain ⟨a1,h0,h⟩:=gInt_elim h
 obtain ⟨a2,h1,h⟩:=gSl_elim h
 obtain ⟨a3,h2,h⟩:=gInt_elim h
 obtain ⟨a4,h3,h⟩:=gInt_elim h
 refine⟨_,?_,h⟩
 simp only [keepSt,kp0,List.map,h0,h1,h2,h3]
 rfl
def b0 (rec kx:L0->Prop) (kr:R->Prop) (x:L0):Prop:=
 (bif(decide (x.t7 < x.t6))then(oget (getI x.t5 x.t7) fun v1=>(rec ⟨(ior .u32 x.m v1),x.t5,x.t6,(IntKind.i64.wrap (x.t7+1))⟩))else(kx ⟨x.m,x.t5,x.t6,x.t7⟩))
def lt:Nat->Option LSpec
 | 0=>some (mkLoop 0 kp0 kR p0 c0 cR b0)
 | _=>none
def F (l:(List Int)) (K:Int->Prop):Prop:=
 (∃ n,loopB b0 n (fun x2=>(K x2.m)) (fun _=>False) ⟨0,l,(l.length:Int),0⟩)
def en:Entry:=mkEntry A C fun x=>F x.1
theorem eqv (l:(List Int)) (K:Int->Prop):apure E tab lt 4 117 [enc (.slice (.int .u32)) l] (ansK C K)=F l K:=by kernel_rfl
theorem l0v (R:St->Prop) (Kx:Nat->St->Prop) (Kr:St->Prop) (x:L0):acode E tab (afun E tab 4) 16 lt ((loopsIn E.P 117).getD 0 (0,.skip)).2 0 (fun s=>R (keepSt kp0 s)) (fun j s=>Kx j (keepSt kp0 s)) (fun s=>Kr (keepSt kR s)) (c0 x)=b0 (fun x=>R (c0 x)) (fun x=>Kx 0 (c0 x)) (fun r=>Kr (cR r)) x:=by kernel_rfl
theorem l0_ok:LSound E tab (afun E tab 4) 16 lt 0 ((loopsIn E.P 117).getD 0 (0,.skip)).2 (mkLoop 0 kp0 kR p0 c0 cR b0):=mkLoop_sound (by decide) (by decide) p0_ok (fun R Kx Kr x=>l0v  R Kx Kr x)
theorem loops:LoopsOk E tab lt 4 117:=loops_of (nt:=16) (ids:=[0]) (by kernel_rfl) (by kernel_rfl) (by
 intro k i hk l hl
 match k,hk with
 | 0,hk=>cases hk;cases hl;exact l0_ok
 | _+1,hk=>exact absurd hk (by simp))
theorem det (l:(List Int)):Det (F l):=by
 unfold F
 repeat' with_reducible first|exact det_ret _|exact det_false|refine det_cond _ ?_ ?_|refine det_oget _ (fun _=>?_)|refine det_loop (fun _=>?_) (fun _=>?_) (fun _=>?_) _ | unfold b0
theorem edet a:Det (en a):=mkD (fun x:Dens A=>det x.1) a
theorem ground:Ground E tab:=gnd (tab_nil _) dtn
theorem sound:EntrySound E 117 en:=mkSound ground loops (by kernel_rfl) (fun x K=>eqv  x.1 K)
end q160
namespace q161
abbrev A:List Ty:=[(.st 4),(.st 4)]
abbrev C:=(cTy (.st 17))
abbrev T:Type:=Hello->Hello->(Verdict->Prop)->Prop
def tv (f0:q160.T) (f1:q159.T):Tab:=[(117,mkEntry q160.A q160.C fun x=>f0 x.1),(112,mkEntry q159.A q159.C fun x=>f1 x.1 x.2.1)]
def tab:Tab:=tv q160.F q159.F
def FV (f0:q160.T) (f1:q159.T) (x_0:Hello) (y:Hello) (K:Verdict->Prop):Prop:=
 (f0 ([x_0.mask,y.mask]:List Int) fun r1=>(bif(r1==0)then(K (⟨1,(-1)⟩:Verdict))else(bif x_0.pri then(f1 (⟨x_0,y,0⟩:PairH) 2 fun r2=>(K r2))else(bif y.pri then(f1 (⟨x_0,y,1⟩:PairH) 2 fun r3=>(K r3))else(bif y.was then(bif(!x_0.was)then(f1 (⟨x_0,y,1⟩:PairH) 2 fun r4=>(K r4))else(f1 (⟨x_0,y,0⟩:PairH) 2 fun r5=>(K r5)))else(f1 (⟨x_0,y,0⟩:PairH) 2 fun r6=>(K r6)))))))
def F (x_0:Hello) (y:Hello) (K:Verdict->Prop):Prop:=FV q160.F q159.F x_0 y K
def en:Entry:=mkEntry A C fun x=>F x.1 x.2.1
theorem eqv (f0:q160.T) (f1:q159.T) (x_0:Hello) (y:Hello) (K:Verdict->Prop):apure E (tv f0 f1) (fun _=>none) 4 114 [enc (.st 4) x_0,enc (.st 4) y] (ansK C K)=FV f0 f1 x_0 y K:=by kernel_rfl
theorem loops:LoopsOk E tab (fun _=>none) 4 114:=lpn _ _ _ _
theorem det (x_0:Hello) (y:Hello):Det (F x_0 y):=by
 unfold F FV
 repeat' with_reducible first|exact det_ret _|refine det_cond _ ?_ ?_|refine det_bind (q160.det _) (fun _=>?_)|refine det_bind (q159.det _ _) (fun _=>?_)
theorem edet a:Det (en a):=mkD (fun x:Dens A=>det x.1 x.2.1) a
theorem ground:Ground E tab:=gnd (tbc q160.sound (tbc q159.sound (tab_nil _))) (dtc q160.edet (dtc q159.edet dtn))
theorem sound:EntrySound E 114 en:=mkSound ground loops (by kernel_rfl) (fun x K=>eqv q160.F q159.F x.1 x.2.1 K)
end q161
namespace q162
abbrev A:List Ty:=[(.st 4),(.st 4)]
abbrev C:=(cTy (.st 17))
abbrev T:Type:=Hello->Hello->(Verdict->Prop)->Prop
def tv (f0:q150.T) (f1:q151.T) (f2:q158.T) (f3:q159.T) (f4:q161.T) (f5:q156.T) (f6:q157.T):Tab:=[(110,mkEntry q150.A q150.C fun _=>f0),(111,mkEntry q151.A q151.C fun x=>f1 x.1 x.2.1),(113,mkEntry q158.A q158.C fun x=>f2 x.1),(112,mkEntry q159.A q159.C fun x=>f3 x.1 x.2.1),(114,mkEntry q161.A q161.C fun x=>f4 x.1 x.2.1),(115,mkEntry q156.A q156.C fun x=>f5 x.1 x.2.1),(116,mkEntry q157.A q157.C fun x=>f6 x.1)]
def tab:Tab:=tv q150.F q151.F q158.F q159.F q161.F q156.F q157.F
def FV (f0:q150.T) (f1:q151.T) (f2:q158.T) (f3:q159.T) (f4:q161.T) (f5:q156.T) (f6:q157.T) (x_0:Hello) (y:Hello) (K:Verdict->Prop):Prop:=
 (bif(x_0.blocks != y.blocks)then(f0 fun r1=>(K r1))else(bif x_0.pri then(bif y.pri then(f0 fun r2=>(K r2))else(bif x_0.inc then(bif y.inc then(f0 fun r3=>(K r3))else(bif x_0.dis then(bif y.dis then(f0 fun r4=>(K r4))else(f1 x_0.inc y.inc fun r5=>(bif(r5 != (-1))then(f2 (⟨x_0,y,(IntKind.i64.wrap (1 - r5))⟩:PairH) fun r6=>(f3 (⟨x_0,y,(IntKind.i64.wrap (1 - r5))⟩:PairH) r6 fun r7=>(K r7)))else(f1 x_0.dis y.dis fun r8=>(bif(r8 != (-1))then(f3 (⟨x_0,y,(IntKind.i64.wrap (1 - r8))⟩:PairH) 3 fun r9=>(K r9))else(bif(x_0.vector.current==y.vector.current)then(f4 x_0 y fun r10=>(K r10))else(f5 x_0.vector ([y.vector.current]:List Int) fun r11=>(f5 y.vector ([x_0.vector.current]:List Int) fun r12=>(f1 r11 r12 fun r13=>(bif(r13==(-1))then(f0 fun r14=>(K r14))else(f6 (⟨x_0,y,r13⟩:PairH) fun r15=>(f3 (⟨x_0,y,r13⟩:PairH) r15 fun r16=>(K r16)))))))))))))else(f1 x_0.inc y.inc fun r17=>(bif(r17 != (-1))then(f2 (⟨x_0,y,(IntKind.i64.wrap (1 - r17))⟩:PairH) fun r18=>(f3 (⟨x_0,y,(IntKind.i64.wrap (1 - r17))⟩:PairH) r18 fun r19=>(K r19)))else(f1 x_0.dis y.dis fun r20=>(bif(r20 != (-1))then(f3 (⟨x_0,y,(IntKind.i64.wrap (1 - r20))⟩:PairH) 3 fun r21=>(K r21))else(bif(x_0.vector.current==y.vector.current)then(f4 x_0 y fun r22=>(K r22))else(f5 x_0.vector ([y.vector.current]:List Int) fun r23=>(f5 y.vector ([x_0.vector.current]:List Int) fun r24=>(f1 r23 r24 fun r25=>(bif(r25==(-1))then(f0 fun r26=>(K r26))else(f6 (⟨x_0,y,r25⟩:PairH) fun r27=>(f3 (⟨x_0,y,r25⟩:PairH) r27 fun r28=>(K r28))))))))))))))else(bif x_0.dis then(bif y.dis then(f0 fun r29=>(K r29))else(f1 x_0.inc y.inc fun r30=>(bif(r30 != (-1))then(f2 (⟨x_0,y,(IntKind.i64.wrap (1 - r30))⟩:PairH) fun r31=>(f3 (⟨x_0,y,(IntKind.i64.wrap (1 - r30))⟩:PairH) r31 fun r32=>(K r32)))else(f1 x_0.dis y.dis fun r33=>(bif(r33 != (-1))then(f3 (⟨x_0,y,(IntKind.i64.wrap (1 - r33))⟩:PairH) 3 fun r34=>(K r34))else(bif(x_0.vector.current==y.vector.current)then(f4 x_0 y fun r35=>(K r35))else(f5 x_0.vector ([y.vector.current]:List Int) fun r36=>(f5 y.vector ([x_0.vector.current]:List Int) fun r37=>(f1 r36 r37 fun r38=>(bif(r38==(-1))then(f0 fun r39=>(K r39))else(f6 (⟨x_0,y,r38⟩:PairH) fun r40=>(f3 (⟨x_0,y,r38⟩:PairH) r40 fun r41=>(K r41)))))))))))))else(f1 x_0.inc y.inc fun r42=>(bif(r42 != (-1))then(f2 (⟨x_0,y,(IntKind.i64.wrap (1 - r42))⟩:PairH) fun r43=>(f3 (⟨x_0,y,(IntKind.i64.wrap (1 - r42))⟩:PairH) r43 fun r44=>(K r44)))else(f1 x_0.dis y.dis fun r45=>(bif(r45 != (-1))then(f3 (⟨x_0,y,(IntKind.i64.wrap (1 - r45))⟩:PairH) 3 fun r46=>(K r46))else(bif(x_0.vector.current==y.vector.current)then(f4 x_0 y fun r47=>(K r47))else(f5 x_0.vector ([y.vector.current]:List Int) fun r48=>(f5 y.vector ([x_0.vector.current]:List Int) fun r49=>(f1 r48 r49 fun r50=>(bif(r50==(-1))then(f0 fun r51=>(K r51))else(f6 (⟨x_0,y,r50⟩:PairH) fun r52=>(f3 (⟨x_0,y,r50⟩:PairH) r52 fun r53=>(K r53)))))))))))))))else(bif x_0.inc then(bif y.inc then(f0 fun r54=>(K r54))else(bif x_0.dis then(bif y.dis then(f0 fun r55=>(K r55))else(f1 x_0.inc y.inc fun r56=>(bif(r56 != (-1))then(f2 (⟨x_0,y,(IntKind.i64.wrap (1 - r56))⟩:PairH) fun r57=>(f3 (⟨x_0,y,(IntKind.i64.wrap (1 - r56))⟩:PairH) r57 fun r58=>(K r58)))else(f1 x_0.dis y.dis fun r59=>(bif(r59 != (-1))then(f3 (⟨x_0,y,(IntKind.i64.wrap (1 - r59))⟩:PairH) 3 fun r60=>(K r60))else(bif(x_0.vector.current==y.vector.current)then(f4 x_0 y fun r61=>(K r61))else(f5 x_0.vector ([y.vector.current]:List Int) fun r62=>(f5 y.vector ([x_0.vector.current]:List Int) fun r63=>(f1 r62 r63 fun r64=>(bif(r64==(-1))then(f0 fun r65=>(K r65))else(f6 (⟨x_0,y,r64⟩:PairH) fun r66=>(f3 (⟨x_0,y,r64⟩:PairH) r66 fun r67=>(K r67)))))))))))))else(f1 x_0.inc y.inc fun r68=>(bif(r68 != (-1))then(f2 (⟨x_0,y,(IntKind.i64.wrap (1 - r68))⟩:PairH) fun r69=>(f3 (⟨x_0,y,(IntKind.i64.wrap (1 - r68))⟩:PairH) r69 fun r70=>(K r70)))else(f1 x_0.dis y.dis fun r71=>(bif(r71 != (-1))then(f3 (⟨x_0,y,(IntKind.i64.wrap (1 - r71))⟩:PairH) 3 fun r72=>(K r72))else(bif(x_0.vector.current==y.vector.current)then(f4 x_0 y fun r73=>(K r73))else(f5 x_0.vector ([y.vector.current]:List Int) fun r74=>(f5 y.vector ([x_0.vector.current]:List Int) fun r75=>(f1 r74 r75 fun r76=>(bif(r76==(-1))then(f0 fun r77=>(K r77))else(f6 (⟨x_0,y,r76⟩:PairH) fun r78=>(f3 (⟨x_0,y,r76⟩:PairH) r78 fun r79=>(K r79))))))))))))))else(bif x_0.dis then(bif y.dis then(f0 fun r80=>(K r80))else(f1 x_0.inc y.inc fun r81=>(bif(r81 != (-1))then(f2 (⟨x_0,y,(IntKind.i64.wrap (1 - r81))⟩:PairH) fun r82=>(f3 (⟨x_0,y,(IntKind.i64.wrap (1 - r81))⟩:PairH) r82 fun r83=>(K r83)))else(f1 x_0.dis y.dis fun r84=>(bif(r84 != (-1))then(f3 (⟨x_0,y,(IntKind.i64.wrap (1 - r84))⟩:PairH) 3 fun r85=>(K r85))else(bif(x_0.vector.current==y.vector.current)then(f4 x_0 y fun r86=>(K r86))else(f5 x_0.vector ([y.vector.current]:List Int) fun r87=>(f5 y.vector ([x_0.vector.current]:List Int) fun r88=>(f1 r87 r88 fun r89=>(bif(r89==(-1))then(f0 fun r90=>(K r90))else(f6 (⟨x_0,y,r89⟩:PairH) fun r91=>(f3 (⟨x_0,y,r89⟩:PairH) r91 fun r92=>(K r92)))))))))))))else(f1 x_0.inc y.inc fun r93=>(bif(r93 != (-1))then(f2 (⟨x_0,y,(IntKind.i64.wrap (1 - r93))⟩:PairH) fun r94=>(f3 (⟨x_0,y,(IntKind.i64.wrap (1 - r93))⟩:PairH) r94 fun r95=>(K r95)))else(f1 x_0.dis y.dis fun r96=>(bif(r96 != (-1))then(f3 (⟨x_0,y,(IntKind.i64.wrap (1 - r96))⟩:PairH) 3 fun r97=>(K r97))else(bif(x_0.vector.current==y.vector.current)then(f4 x_0 y fun r98=>(K r98))else(f5 x_0.vector ([y.vector.current]:List Int) fun r99=>(f5 y.vector ([x_0.vector.current]:List Int) fun r100=>(f1 r99 r100 fun r101=>(bif(r101==(-1))then(f0 fun r102=>(K r102))else(f6 (⟨x_0,y,r101⟩:PairH) fun r103=>(f3 (⟨x_0,y,r101⟩:PairH) r103 fun r104=>(K r104))))))))))))))))
def F (x_0:Hello) (y:Hello) (K:Verdict->Prop):Prop:=FV q150.F q151.F q158.F q159.F q161.F q156.F q157.F x_0 y K
def en:Entry:=mkEntry A C fun x=>F x.1 x.2.1
theorem eqv (f0:q150.T) (f1:q151.T) (f2:q158.T) (f3:q159.T) (f4:q161.T) (f5:q156.T) (f6:q157.T) (x_0:Hello) (y:Hello) (K:Verdict->Prop):apure E (tv f0 f1 f2 f3 f4 f5 f6) (fun _=>none) 4 63 [enc (.st 4) x_0,enc (.st 4) y] (ansK C K)=FV f0 f1 f2 f3 f4 f5 f6 x_0 y K:=by kernel_rfl
theorem loops:LoopsOk E tab (fun _=>none) 4 63:=lpn _ _ _ _
theorem det (x_0:Hello) (y:Hello):Det (F x_0 y):=by
 unfold F FV
 repeat' with_reducible first|exact det_ret _|refine det_cond _ ?_ ?_|refine det_bind (q150.det) (fun _=>?_)|refine det_bind (q151.det _ _) (fun _=>?_)|refine det_bind (q158.det _) (fun _=>?_)|refine det_bind (q159.det _ _) (fun _=>?_)|refine det_bind (q161.det _ _) (fun _=>?_)|refine det_bind (q156.det _ _) (fun _=>?_)|refine det_bind (q157.det _) (fun _=>?_)
theorem edet a:Det (en a):=mkD (fun x:Dens A=>det x.1 x.2.1) a
theorem ground:Ground E tab:=gnd (tbc q150.sound (tbc q151.sound (tbc q158.sound (tbc q159.sound (tbc q161.sound (tbc q156.sound (tbc q157.sound (tab_nil _)))))))) (dtc q150.edet (dtc q151.edet (dtc q158.edet (dtc q159.edet (dtc q161.edet (dtc q156.edet (dtc q157.edet dtn)))))))
theorem sound:EntrySound E 63 en:=mkSound ground loops (by kernel_rfl) (fun x K=>eqv q150.F q151.F q158.F q159.F q161.F q156.F q157.F x.1 x.2.1 K)
end q162
namespace q163
abbrev A:List Ty:=[(.st 2)]
abbrev C:=(cTy (.st 2))
abbrev T:Type:=Vec->(Vec->Prop)->Prop
def tab:Tab:=[]
def F (v:Vec) (K:Vec->Prop):Prop:=
 (bif(v.bitmap != 0)then(K (⟨v.current,0,v.bitmap,v.old0⟩:Vec))else(K v))
def en:Entry:=mkEntry A C fun x=>F x.1
theorem eqv (v:Vec) (K:Vec->Prop):apure E tab (fun _=>none) 4 84 [enc (.st 2) v] (ansK C K)=F v K:=by kernel_rfl
theorem loops:LoopsOk E tab (fun _=>none) 4 84:=lpn _ _ _ _
theorem det (v:Vec):Det (F v):=by
 unfold F
 repeat' with_reducible first|exact det_ret _|refine det_cond _ ?_ ?_
theorem edet a:Det (en a):=mkD (fun x:Dens A=>det x.1) a
theorem ground:Ground E tab:=gnd (tab_nil _) dtn
theorem sound:EntrySound E 84 en:=mkSound ground loops (by kernel_rfl) (fun x K=>eqv  x.1 K)
end q163
namespace q164
abbrev A:List Ty:=[(.st 3)]
abbrev C:=(cTy .bool)
abbrev T:Type:=Super->(Bool->Prop)->Prop
def tv (f0:q136.T) (f1:q134.T):Tab:=[(119,mkEntry q136.A q136.C fun x=>f0 x.1),(259,mkEntry q134.A q134.C fun x=>f1 x.1)]
def tab:Tab:=tv q136.F q134.F
def FV (f0:q136.T) (f1:q134.T) (s:Super) (K:Bool->Prop):Prop:=
 (f0 s.blocks fun r1=>(bif(r1 != 0)then(f1 s.vector fun r2=>(K r2))else(K false)))
def F (s:Super) (K:Bool->Prop):Prop:=FV q136.F q134.F s K
def en:Entry:=mkEntry A C fun x=>F x.1
theorem eqv (f0:q136.T) (f1:q134.T) (s:Super) (K:Bool->Prop):apure E (tv f0 f1) (fun _=>none) 4 256 [enc (.st 3) s] (ansK C K)=FV f0 f1 s K:=by kernel_rfl
theorem loops:LoopsOk E tab (fun _=>none) 4 256:=lpn _ _ _ _
theorem det (s:Super):Det (F s):=by
 unfold F FV
 repeat' with_reducible first|exact det_ret _|refine det_cond _ ?_ ?_|refine det_bind (q136.det _) (fun _=>?_)|refine det_bind (q134.det _) (fun _=>?_)
theorem edet a:Det (en a):=mkD (fun x:Dens A=>det x.1) a
theorem ground:Ground E tab:=gnd (tbc q136.sound (tbc q134.sound (tab_nil _))) (dtc q136.edet (dtc q134.edet dtn))
theorem sound:EntrySound E 256 en:=mkSound ground loops (by kernel_rfl) (fun x K=>eqv q136.F q134.F x.1 K)
end q164
namespace q165
abbrev A:List Ty:=[(.slice .bool)]
abbrev C:=(cTy (.int .u8))
abbrev T:Type:=(List Bool)->(Int->Prop)->Prop
def tab:Tab:=[]
structure R where
def cR (_:R):St:={ fr:=fun _=>.top,hs:=hs0 }
def kR:Keep:={ ks:=[],bs:=[],hn:=0 }
structure L0 where
 b0:Int
 t9:(List Bool)
 t10:Int
 t11:Int
def c0 (x:L0):St:={ fr:=lookL .top [(2,(.int .u8 x.b0)),(9,(.sl .any .bool x.t9)),(10,(.int .i64 x.t10)),(11,(.int .i64 x.t11))],hs:={ hp:=lookL .dead [],hn:=0 } }
def kp0:Keep:={ ks:=[(2,none),(9,none),(10,none),(11,none)],bs:=[],hn:=0 }
def p0 (st:St) (K:L0->Prop):Prop:=gInt .u8 (st.fr 2) fun a1=>gSl .any .bool (st.fr 9) fun a2=>gInt .i64 (st.fr 10) fun a3=>gInt .i64 (st.fr 11) fun a4=>K ⟨a1,a2,a3,a4⟩
set_option maxHeartbeats 4000000 in
theorem p0_ok (st:St) (K:L0->Prop) (h:p0 st K):∃ x,keepSt kp0 st=c0 x∧K x:=by
 obtain ⟨a1,h0,h⟩:=gInt_elim h
 obtain ⟨a2,h1,h⟩:=gSl_elim h
 obtain ⟨a3,h2,h⟩:=gInt_elim h
 obtain ⟨a4,h3,h⟩:=gInt_elim h
 refine⟨_,?_,h⟩
 simp only [keepSt,kp0,List.map,h0,h1,h2,h3]
 rfl
def b0 (rec kx:L0->Prop) (kr:R->Prop) (x:L0):Prop:=
 (bif(decide (x.t11 < x.t10))then(oget (getI x.t9 x.t11) fun v1=>(bif v1 then(bif(decide (0≤x.t11))then(rec ⟨(ior .u8 x.b0 (ishl .u8 1 x.t11)),x.t9,x.t10,(IntKind.i64.wrap (x.t11+1))⟩)else False)else(rec ⟨x.b0,x.t9,x.t10,(IntKind.i64.wrap (x.t11+1))⟩)))else(kx ⟨x.b0,x.t9,x.t10,x.t11⟩))
def lt:Nat->Option LSpec
 | 0=>some (mkLoop 0 kp0 kR p0 c0 cR b0)
 | _=>none
def F (l:(List Bool)) (K:Int->Prop):Prop:=
 (bif(decide (0≤(minI (l.length:Int) 8))&&decide ((minI (l.length:Int) 8)≤(l.length:Int)))then(∃ n,loopB b0 n (fun x2=>(K x2.b0)) (fun _=>False) ⟨0,(sub l 0 (Int.toNat (minI (l.length:Int) 8))),((sub l 0 (Int.toNat (minI (l.length:Int) 8))).length:Int),0⟩)else False)
def en:Entry:=mkEntry A C fun x=>F x.1
theorem eqv (l:(List Bool)) (K:Int->Prop):apure E tab lt 4 221 [enc (.slice .bool) l] (ansK C K)=F l K:=by kernel_rfl
theorem l0v (R:St->Prop) (Kx:Nat->St->Prop) (Kr:St->Prop) (x:L0):acode E tab (afun E tab 4) 23 lt ((loopsIn E.P 221).getD 0 (0,.skip)).2 0 (fun s=>R (keepSt kp0 s)) (fun j s=>Kx j (keepSt kp0 s)) (fun s=>Kr (keepSt kR s)) (c0 x)=b0 (fun x=>R (c0 x)) (fun x=>Kx 0 (c0 x)) (fun r=>Kr (cR r)) x:=by kernel_rfl
theorem l0_ok:LSound E tab (afun E tab 4) 23 lt 0 ((loopsIn E.P 221).getD 0 (0,.skip)).2 (mkLoop 0 kp0 kR p0 c0 cR b0):=mkLoop_sound (by decide) (by decide) p0_ok (fun R Kx Kr x=>l0v  R Kx Kr x)
theorem loops:LoopsOk E tab lt 4 221:=loops_of (nt:=23) (ids:=[0]) (by kernel_rfl) (by kernel_rfl) (by
 intro k i hk l hl
 match k,hk with
 | 0,hk=>cases hk;cases hl;exact l0_ok
 | _+1,hk=>exact absurd hk (by simp))
theorem det (l:(List Bool)):Det (F l):=by
 unfold F
 repeat' with_reducible first|exact det_ret _|exact det_false|refine det_cond _ ?_ ?_|refine det_oget _ (fun _=>?_)|refine det_loop (fun _=>?_) (fun _=>?_) (fun _=>?_) _ | unfold b0
theorem edet a:Det (en a):=mkD (fun x:Dens A=>det x.1) a
theorem ground:Ground E tab:=gnd (tab_nil _) dtn
theorem sound:EntrySound E 221 en:=mkSound ground loops (by kernel_rfl) (fun x K=>eqv  x.1 K)
end q165
namespace q166
abbrev A:List Ty:=[(.int .u64),(.int .i64)]
abbrev C:=(cTy .str)
abbrev T:Type:=Int->Int->(Str->Prop)->Prop
def tab:Tab:=[]
structure R where
def cR (_:R):St:={ fr:=fun _=>.top,hs:=hs0 }
def kR:Keep:={ ks:=[],bs:=[],hn:=0 }
structure L0 where
 n0:Int
 size:Int
 b0:(List Int)
 t10:Int
 t11:Int
def c0 (x:L0):St:={ fr:=lookL .top [(0,(.int .u64 x.n0)),(1,(.int .i64 x.size)),(5,(.slr 0)),(10,(.int .i64 x.t10)),(11,(.int .i64 x.t11))],hs:={ hp:=lookL .dead [(0,(.row false (.int .u8) x.b0))],hn:=1 } }
def kp0:Keep:={ ks:=[(0,none),(1,none),(5,some 0),(10,none),(11,none)],bs:=[],hn:=1 }
def p0 (st:St) (K:L0->Prop):Prop:=gHomes kp0 st <| gInt .u64 (st.fr 0) fun a1=>gInt .i64 (st.fr 1) fun a2=>gSlr (st.fr 5) fun c3=>gRow false (.int .u8) (st.hs.hp c3) fun a4=>gInt .i64 (st.fr 10) fun a5=>gInt .i64 (st.fr 11) fun a6=>K ⟨a1,a2,a4,a5,a6⟩
set_option maxHeartbeats 4000000 in
theorem p0_ok (st:St) (K:L0->Prop) (h:p0 st K):∃ x,keepSt kp0 st=c0 x∧K x:=by
 obtain ⟨h0,h⟩:=gHomes_elim h
 obtain ⟨a1,h1,h⟩:=gInt_elim h
 obtain ⟨a2,h2,h⟩:=gInt_elim h
 obtain ⟨c3,h3,h⟩:=gSlr_elim h
 obtain ⟨a4,h4,h⟩:=gRow_elim h
 obtain ⟨a5,h5,h⟩:=gInt_elim h
 obtain ⟨a6,h6,h⟩:=gInt_elim h
 refine⟨_,?_,h⟩
 simp only [keepSt,h0]
 simp only [kp0,List.map,List.filterMap,homeOf,h1,h2,h3,h4,h5,h6,hmOf,List.append_nil,cond_true]
 rfl
def b0 (rec kx:L0->Prop) (kr:R->Prop) (x:L0):Prop:=
 (bif(decide (x.t11 < x.t10))then(bif(decide (0≤(IntKind.i64.wrap (8 * x.t11))))then(bif(decide (0≤(IntKind.i64.wrap ((IntKind.i64.wrap (x.size - 1)) - x.t11)))&&decide ((IntKind.i64.wrap ((IntKind.i64.wrap (x.size - 1)) - x.t11)) < (x.b0.length:Int)))then(rec ⟨x.n0,x.size,(x.b0.set (Int.toNat (IntKind.i64.wrap ((IntKind.i64.wrap (x.size - 1)) - x.t11))) (IntKind.u8.wrap (ishr .u64 x.n0 (IntKind.i64.wrap (8 * x.t11))))),x.t10,(IntKind.i64.wrap (x.t11+1))⟩)else False)else False)else(kx ⟨x.n0,x.size,x.b0,x.t10,x.t11⟩))
def lt:Nat->Option LSpec
 | 0=>some (mkLoop 0 kp0 kR p0 c0 cR b0)
 | _=>none
def F (n_0:Int) (size:Int) (K:Str->Prop):Prop:=
 (bif(size==size&&(decide (0≤size)&&decide (size * (1:Nat)≤(room:Int))))then(∃ n,loopB b0 n (fun x1=>(K (bytesOfInts x1.b0))) (fun _=>False) ⟨n_0,size,(List.replicate (Int.toNat size) (0:Int)),((List.replicate (Int.toNat size) (0:Int)).length:Int),0⟩)else False)
def en:Entry:=mkEntry A C fun x=>F x.1 x.2.1
theorem eqv (n_0:Int) (size:Int) (K:Str->Prop):apure E tab lt 4 218 [enc (.int .u64) n_0,enc (.int .i64) size] (ansK C K)=F n_0 size K:=by kernel_rfl
theorem l0v (R:St->Prop) (Kx:Nat->St->Prop) (Kr:St->Prop) (x:L0):acode E tab (afun E tab 4) 28 lt ((loopsIn E.P 218).getD 0 (0,.skip)).2 0 (fun s=>R (keepSt kp0 s)) (fun j s=>Kx j (keepSt kp0 s)) (fun s=>Kr (keepSt kR s)) (c0 x)=b0 (fun x=>R (c0 x)) (fun x=>Kx 0 (c0 x)) (fun r=>Kr (cR r)) x:=by kernel_rfl
theorem l0_ok:LSound E tab (afun E tab 4) 28 lt 0 ((loopsIn E.P 218).getD 0 (0,.skip)).2 (mkLoop 0 kp0 kR p0 c0 cR b0):=mkLoop_sound (by decide) (by decide) p0_ok (fun R Kx Kr x=>l0v  R Kx Kr x)
theorem loops:LoopsOk E tab lt 4 218:=loops_of (nt:=28) (ids:=[0]) (by kernel_rfl) (by kernel_rfl) (by
 intro k i hk l hl
 match k,hk with
 | 0,hk=>cases hk;cases hl;exact l0_ok
 | _+1,hk=>exact absurd hk (by simp))
theorem det (n_0:Int) (size:Int):Det (F n_0 size):=by
 unfold F
 repeat' with_reducible first|exact det_ret _|exact det_false|refine det_cond _ ?_ ?_|refine det_loop (fun _=>?_) (fun _=>?_) (fun _=>?_) _ | unfold b0
theorem edet a:Det (en a):=mkD (fun x:Dens A=>det x.1 x.2.1) a
theorem ground:Ground E tab:=gnd (tab_nil _) dtn
theorem sound:EntrySound E 218 en:=mkSound ground loops (by kernel_rfl) (fun x K=>eqv  x.1 x.2.1 K)
end q166
namespace q167
abbrev A:List Ty:=[(.int .u64)]
abbrev C:=(cTy .str)
abbrev T:Type:=Int->(Str->Prop)->Prop
def tv (f0:q166.T):Tab:=[(218,mkEntry q166.A q166.C fun x=>f0 x.1 x.2.1)]
def tab:Tab:=tv q166.F
def FV (f0:q166.T) (n_0:Int) (K:Str->Prop):Prop:=
 (f0 n_0 8 fun r1=>(K r1))
def F (n_0:Int) (K:Str->Prop):Prop:=FV q166.F n_0 K
def en:Entry:=mkEntry A C fun x=>F x.1
theorem eqv (f0:q166.T) (n_0:Int) (K:Str->Prop):apure E (tv f0) (fun _=>none) 4 166 [enc (.int .u64) n_0] (ansK C K)=FV f0 n_0 K:=by kernel_rfl
theorem loops:LoopsOk E tab (fun _=>none) 4 166:=lpn _ _ _ _
theorem det (n_0:Int):Det (F n_0):=by
 unfold F FV
 repeat' with_reducible first|exact det_ret _|refine det_bind (q166.det _ _) (fun _=>?_)
theorem edet a:Det (en a):=mkD (fun x:Dens A=>det x.1) a
theorem ground:Ground E tab:=gnd (tbc q166.sound (tab_nil _)) (dtc q166.edet dtn)
theorem sound:EntrySound E 166 en:=mkSound ground loops (by kernel_rfl) (fun x K=>eqv q166.F x.1 K)
end q167
namespace q168
abbrev A:List Ty:=[(.int .u32)]
abbrev C:=(cTy .str)
abbrev T:Type:=Int->(Str->Prop)->Prop
def tv (f0:q166.T):Tab:=[(218,mkEntry q166.A q166.C fun x=>f0 x.1 x.2.1)]
def tab:Tab:=tv q166.F
def FV (f0:q166.T) (n_0:Int) (K:Str->Prop):Prop:=
 (f0 (IntKind.u64.wrap n_0) 4 fun r1=>(K r1))
def F (n_0:Int) (K:Str->Prop):Prop:=FV q166.F n_0 K
def en:Entry:=mkEntry A C fun x=>F x.1
theorem eqv (f0:q166.T) (n_0:Int) (K:Str->Prop):apure E (tv f0) (fun _=>none) 4 158 [enc (.int .u32) n_0] (ansK C K)=FV f0 n_0 K:=by kernel_rfl
theorem loops:LoopsOk E tab (fun _=>none) 4 158:=lpn _ _ _ _
theorem det (n_0:Int):Det (F n_0):=by
 unfold F FV
 repeat' with_reducible first|exact det_ret _|refine det_bind (q166.det _ _) (fun _=>?_)
theorem edet a:Det (en a):=mkD (fun x:Dens A=>det x.1) a
theorem ground:Ground E tab:=gnd (tbc q166.sound (tab_nil _)) (dtc q166.edet dtn)
theorem sound:EntrySound E 158 en:=mkSound ground loops (by kernel_rfl) (fun x K=>eqv q166.F x.1 K)
end q168
namespace q169
abbrev A:List Ty:=[.str]
abbrev C:=(cTy .str)
abbrev T:Type:=Str->(Str->Prop)->Prop
def tv (f0:q129.T) (f1:q168.T):Tab:=[(217,mkEntry q129.A q129.C fun x=>f0 x.1),(158,mkEntry q168.A q168.C fun x=>f1 x.1)]
def tab:Tab:=tv q129.F q168.F
def FV (f0:q129.T) (f1:q168.T) (s:Str) (K:Str->Prop):Prop:=
 (f0 s fun r1=>(f1 r1 fun r2=>(bif(fits (s.length+r2.length))then(K (s++r2))else False)))
def F (s:Str) (K:Str->Prop):Prop:=FV q129.F q168.F s K
def en:Entry:=mkEntry A C fun x=>F x.1
theorem eqv (f0:q129.T) (f1:q168.T) (s:Str) (K:Str->Prop):apure E (tv f0 f1) (fun _=>none) 4 157 [enc .str s] (ansK C K)=FV f0 f1 s K:=by kernel_rfl
theorem loops:LoopsOk E tab (fun _=>none) 4 157:=lpn _ _ _ _
theorem det (s:Str):Det (F s):=by
 unfold F FV
 repeat' with_reducible first|exact det_ret _|exact det_false|refine det_cond _ ?_ ?_|refine det_bind (q129.det _) (fun _=>?_)|refine det_bind (q168.det _) (fun _=>?_)
theorem edet a:Det (en a):=mkD (fun x:Dens A=>det x.1) a
theorem ground:Ground E tab:=gnd (tbc q129.sound (tbc q168.sound (tab_nil _))) (dtc q129.edet (dtc q168.edet dtn))
theorem sound:EntrySound E 157 en:=mkSound ground loops (by kernel_rfl) (fun x K=>eqv q129.F q168.F x.1 K)
end q169
namespace q170
abbrev A:List Ty:=[(.st 3)]
abbrev C:=(cTwo .str (.int .i64))
abbrev T:Type:=Super->((Str×Int)->Prop)->Prop
def tv (f0:q164.T) (f1:q165.T) (f2:q167.T) (f3:q169.T):Tab:=[(256,mkEntry q164.A q164.C fun x=>f0 x.1),(221,mkEntry q165.A q165.C fun x=>f1 x.1),(166,mkEntry q167.A q167.C fun x=>f2 x.1),(157,mkEntry q169.A q169.C fun x=>f3 x.1)]
def tab:Tab:=tv q164.F q165.F q167.F q169.F
structure R where
def cR (_:R):St:={ fr:=fun _=>.top,hs:=hs0 }
def kR:Keep:={ ks:=[],bs:=[],hn:=0 }
structure L0 where
 b0:Str
 t25:Int
 m0:Super
def c0 (x:L0):St:={ fr:=lookL .top [(4,(.str x.b0)),(24,(.agg [(.ptr 0 1),(.ptr 0 2),(.ptr 0 3),(.ptr 0 4)])),(25,(.int .i64 x.t25))],hs:={ hp:=lookL .dead [(0,(.cells [(.int .i64 x.m0.blocks),(.int .u64 x.m0.vector.current),(.int .u64 x.m0.vector.bitmap),(.int .u64 x.m0.vector.old0),(.int .u64 x.m0.vector.old1),(.bool x.m0.inc),(.bool x.m0.pri),(.bool x.m0.dis)]))],hn:=2 } }
def kp0:Keep:={ ks:=[(4,none),(24,none),(25,none)],bs:=[0],hn:=2,ts:=[(0,3)] }
def p0 (st:St) (K:L0->Prop):Prop:=gStr (st.fr 4) fun a1=>gAgg (st.fr 24) fun c2=>gCons c2 fun c3 c4=>gPtr 0 1 c3 <| gCons c4 fun c5 c6=>gPtr 0 2 c5 <| gCons c6 fun c7 c8=>gPtr 0 3 c7 <| gCons c8 fun c9 c10=>gPtr 0 4 c9 <| gNil c10 <| gInt .i64 (st.fr 25) fun a11=>gBlkS 3 (st.hs.hp 0) fun a12=>K ⟨a1,a11,a12⟩
set_option maxHeartbeats 4000000 in
theorem p0_ok (st:St) (K:L0->Prop) (h:p0 st K):∃ x,keepSt kp0 st=c0 x∧K x:=by
 obtain ⟨a1,h0,h⟩:=gStr_elim h
 obtain ⟨c2,h1,h⟩:=gAgg_elim h
 obtain ⟨c3,c4,h2,h⟩:=gCons_elim h
 obtain ⟨h3,h⟩:=gPtr_elim h
 obtain ⟨c5,c6,h4,h⟩:=gCons_elim h
 obtain ⟨h5,h⟩:=gPtr_elim h
 obtain ⟨c7,c8,h6,h⟩:=gCons_elim h
 obtain ⟨h7,h⟩:=gPtr_elim h
 obtain ⟨c9,c10,h8,h⟩:=gCons_elim h
 obtain ⟨h9,h⟩:=gPtr_elim h
 obtain ⟨h10,h⟩:=gNil_elim h
 obtain ⟨a11,h11,h⟩:=gInt_elim h
 obtain ⟨z12,a12,h12,y12,h⟩:=gBlkS_elim h
 have q12:∀ ok,keptB kp0 ok 0 (.cells z12)=.cells (encS 3 a12):=fun _=>y12
 simp only [kp0] at q12
 refine⟨_,?_,h⟩
 subst h2
 subst h3
 subst h4
 subst h5
 subst h6
 subst h7
 subst h8
 subst h9
 subst h10
 simp only [keepSt,kp0,List.map,h0,h1,h11,h12,q12]
 rfl
def b0V (f0:q164.T) (f1:q165.T) (f2:q167.T) (f3:q169.T) (rec kx:L0->Prop) (kr:R->Prop) (x:L0):Prop:=
 (bif(decide (x.t25 < 4))then(bif(x.t25==0)then(f2 x.m0.vector.current fun r6=>(bif(fits (x.b0.length+r6.length))then(rec ⟨(x.b0++r6),(IntKind.i64.wrap (x.t25+1)),x.m0⟩)else False))else(bif(x.t25==1)then(f2 x.m0.vector.bitmap fun r5=>(bif(fits (x.b0.length+r5.length))then(rec ⟨(x.b0++r5),(IntKind.i64.wrap (x.t25+1)),x.m0⟩)else False))else(bif(x.t25==2)then(f2 x.m0.vector.old0 fun r4=>(bif(fits (x.b0.length+r4.length))then(rec ⟨(x.b0++r4),(IntKind.i64.wrap (x.t25+1)),x.m0⟩)else False))else(bif(x.t25==3)then(f2 x.m0.vector.old1 fun r3=>(bif(fits (x.b0.length+r3.length))then(rec ⟨(x.b0++r3),(IntKind.i64.wrap (x.t25+1)),x.m0⟩)else False))else False))))else(kx ⟨x.b0,x.t25,x.m0⟩))
def ltV (f0:q164.T) (f1:q165.T) (f2:q167.T) (f3:q169.T):Nat->Option LSpec
 | 0=>some (mkLoop 0 kp0 kR p0 c0 cR (b0V f0 f1 f2 f3))
 | _=>none
def lt:Nat->Option LSpec:=ltV q164.F q165.F q167.F q169.F
def FV (f0:q164.T) (f1:q165.T) (f2:q167.T) (f3:q169.T) (s:Super) (K:(Str×Int)->Prop):Prop:=
 (f0 s fun r1=>(bif(!r1)then(K (([]:Str),1))else(f1 ([s.inc,s.pri,s.dis]:List Bool) fun r2=>(bif(fits (([71,77,1]:Str).length+(bytesOfInts ([(IntKind.u8.wrap s.blocks),r2]:List Int)).length))then(∃ n,loopB (b0V f0 f1 f2 f3) n (fun x7=>(f3 x7.b0 fun r9=>(K (r9,0)))) (fun _=>False) ⟨(([71,77,1]:Str)++(bytesOfInts ([(IntKind.u8.wrap s.blocks),r2]:List Int))),0,s⟩)else False))))
def F (s:Super) (K:(Str×Int)->Prop):Prop:=FV q164.F q165.F q167.F q169.F s K
def en:Entry:=mkEntry A C fun x=>F x.1
theorem eqv (f0:q164.T) (f1:q165.T) (f2:q167.T) (f3:q169.T) (s:Super) (K:(Str×Int)->Prop):apure E (tv f0 f1 f2 f3) (ltV f0 f1 f2 f3) 4 205 [enc (.st 3) s] (ansK C K)=FV f0 f1 f2 f3 s K:=by kernel_rfl
theorem l0v (f0:q164.T) (f1:q165.T) (f2:q167.T) (f3:q169.T) (R:St->Prop) (Kx:Nat->St->Prop) (Kr:St->Prop) (x:L0):acode E (tv f0 f1 f2 f3) (afun E (tv f0 f1 f2 f3) 4) 37 (ltV f0 f1 f2 f3) ((loopsIn E.P 205).getD 0 (0,.skip)).2 0 (fun s=>R (keepSt kp0 s)) (fun j s=>Kx j (keepSt kp0 s)) (fun s=>Kr (keepSt kR s)) (c0 x)=b0V f0 f1 f2 f3 (fun x=>R (c0 x)) (fun x=>Kx 0 (c0 x)) (fun r=>Kr (cR r)) x:=by kernel_rfl
theorem l0_ok:LSound E tab (afun E tab 4) 37 lt 0 ((loopsIn E.P 205).getD 0 (0,.skip)).2 (mkLoop 0 kp0 kR p0 c0 cR (b0V q164.F q165.F q167.F q169.F)):=mkLoop_sound (by decide) (by decide) p0_ok (fun R Kx Kr x=>l0v q164.F q165.F q167.F q169.F R Kx Kr x)
theorem loops:LoopsOk E tab lt 4 205:=loops_of (nt:=37) (ids:=[0]) (by kernel_rfl) (by kernel_rfl) (by
 intro k i hk l hl
 match k,hk with
 | 0,hk=>cases hk;cases hl;exact l0_ok
 | _+1,hk=>exact absurd hk (by simp))
theorem det (s:Super):Det (F s):=by
 unfold F FV
 repeat' with_reducible first|exact det_ret _|exact det_false|refine det_cond _ ?_ ?_|refine det_bind (q164.det _) (fun _=>?_)|refine det_bind (q165.det _) (fun _=>?_)|refine det_bind (q167.det _) (fun _=>?_)|refine det_bind (q169.det _) (fun _=>?_)|refine det_loop (fun _=>?_) (fun _=>?_) (fun _=>?_) _ | unfold b0V
theorem edet a:Det (en a):=mkD (fun x:Dens A=>det x.1) a
theorem ground:Ground E tab:=gnd (tbc q164.sound (tbc q165.sound (tbc q167.sound (tbc q169.sound (tab_nil _))))) (dtc q164.edet (dtc q165.edet (dtc q167.edet (dtc q169.edet dtn))))
theorem sound:EntrySound E 205 en:=mkSound ground loops (by kernel_rfl) (fun x K=>eqv q164.F q165.F q167.F q169.F x.1 K)
end q170
namespace q171
abbrev A:List Ty:=[(.st 1),(.st 3)]
abbrev C:=(cTy .bool)
abbrev T:Type:=Disk->Super->(Bool->Prop)->Prop
def tab:Tab:=[]
def F (d:Disk) (s:Super) (K:Bool->Prop):Prop:=
 (K (s.blocks==(IntKind.i64.wrap ((d.sure.length:Int) - 2))))
def en:Entry:=mkEntry A C fun x=>F x.1 x.2.1
theorem eqv (d:Disk) (s:Super) (K:Bool->Prop):apure E tab (fun _=>none) 4 206 [enc (.st 1) d,enc (.st 3) s] (ansK C K)=F d s K:=by kernel_rfl
theorem loops:LoopsOk E tab (fun _=>none) 4 206:=lpn _ _ _ _
theorem det (d:Disk) (s:Super):Det (F d s):=by
 unfold F
 repeat' with_reducible first|exact det_ret _
theorem edet a:Det (en a):=mkD (fun x:Dens A=>det x.1 x.2.1) a
theorem ground:Ground E tab:=gnd (tab_nil _) dtn
theorem sound:EntrySound E 206 en:=mkSound ground loops (by kernel_rfl) (fun x K=>eqv  x.1 x.2.1 K)
end q171
namespace q172
abbrev A:List Ty:=[(.st 1),(.int .i64)]
abbrev C:=(cTy .bool)
abbrev T:Type:=Disk->Int->(Bool->Prop)->Prop
def tab:Tab:=[]
def F (d:Disk) (i:Int) (K:Bool->Prop):Prop:=
 (bif(decide (i≥0))then(K (decide (i < (d.sure.length:Int))))else(K false))
def en:Entry:=mkEntry A C fun x=>F x.1 x.2.1
theorem eqv (d:Disk) (i:Int) (K:Bool->Prop):apure E tab (fun _=>none) 4 210 [enc (.st 1) d,enc (.int .i64) i] (ansK C K)=F d i K:=by kernel_rfl
theorem loops:LoopsOk E tab (fun _=>none) 4 210:=lpn _ _ _ _
theorem det (d:Disk) (i:Int):Det (F d i):=by
 unfold F
 repeat' with_reducible first|exact det_ret _|refine det_cond _ ?_ ?_
theorem edet a:Det (en a):=mkD (fun x:Dens A=>det x.1 x.2.1) a
theorem ground:Ground E tab:=gnd (tab_nil _) dtn
theorem sound:EntrySound E 210 en:=mkSound ground loops (by kernel_rfl) (fun x K=>eqv  x.1 x.2.1 K)
end q172
namespace q173
abbrev A:List Ty:=[.str]
abbrev C:=(cTy .bool)
abbrev T:Type:=Str->(Bool->Prop)->Prop
def tab:Tab:=[]
def F (s:Str) (K:Bool->Prop):Prop:=
 (K (decide ((s.length:Int) > 64)))
def en:Entry:=mkEntry A C fun x=>F x.1
theorem eqv (s:Str) (K:Bool->Prop):apure E tab (fun _=>none) 4 211 [enc .str s] (ansK C K)=F s K:=by kernel_rfl
theorem loops:LoopsOk E tab (fun _=>none) 4 211:=lpn _ _ _ _
theorem det (s:Str):Det (F s):=by
 unfold F
 repeat' with_reducible first|exact det_ret _
theorem edet a:Det (en a):=mkD (fun x:Dens A=>det x.1) a
theorem ground:Ground E tab:=gnd (tab_nil _) dtn
theorem sound:EntrySound E 211 en:=mkSound ground loops (by kernel_rfl) (fun x K=>eqv  x.1 K)
end q173
namespace q174
abbrev A:List Ty:=[(.st 1)]
abbrev C:=(cTy (.st 1))
abbrev T:Type:=Disk->(Disk->Prop)->Prop
def tab:Tab:=[]
def F (d:Disk) (K:Disk->Prop):Prop:=
 (K (⟨d.sure,d.cache,0,true⟩:Disk))
def en:Entry:=mkEntry A C fun x=>F x.1
theorem eqv (d:Disk) (K:Disk->Prop):apure E tab (fun _=>none) 4 151 [enc (.st 1) d] (ansK C K)=F d K:=by kernel_rfl
theorem loops:LoopsOk E tab (fun _=>none) 4 151:=lpn _ _ _ _
theorem det (d:Disk):Det (F d):=by
 unfold F
 repeat' with_reducible first|exact det_ret _
theorem edet a:Det (en a):=mkD (fun x:Dens A=>det x.1) a
theorem ground:Ground E tab:=gnd (tab_nil _) dtn
theorem sound:EntrySound E 151 en:=mkSound ground loops (by kernel_rfl) (fun x K=>eqv  x.1 K)
end q174
namespace q175
abbrev A:List Ty:=[(.st 1),(.int .i64),.str]
abbrev C:=(cTwo (.st 1) (.int .i64))
abbrev T:Type:=Disk->Int->Str->((Disk×Int)->Prop)->Prop
def tv (f0:q172.T) (f1:q173.T) (f2:q174.T):Tab:=[(210,mkEntry q172.A q172.C fun x=>f0 x.1 x.2.1),(211,mkEntry q173.A q173.C fun x=>f1 x.1),(151,mkEntry q174.A q174.C fun x=>f2 x.1)]
def tab:Tab:=tv q172.F q173.F q174.F
def FV (f0:q172.T) (f1:q173.T) (f2:q174.T) (d:Disk) (i:Int) (data:Str) (K:(Disk×Int)->Prop):Prop:=
 (bif d.dead then(K (d,6))else(f0 d i fun r1=>(bif(!r1)then(K (d,4))else(f1 data fun r2=>(bif r2 then(K (d,5))else(bif(d.fuse==0)then(bif(decide (d.cache.length * 24≤room))then(bif(decide (0≤(d.cache.length:Int))&&decide ((d.cache.length:Int)≤(d.cache.length:Int))&&(d.cache.length:Int)==(d.cache.length:Int))then(bif(decide (((sub d.cache 0 (Int.toNat (d.cache.length:Int))).length+([(⟨i,data⟩:Write)]:List Write).length) * 24≤room))then(K ((⟨d.sure,((sub d.cache 0 (Int.toNat (d.cache.length:Int)))++([(⟨i,data⟩:Write)]:List Write)),d.fuse,d.dead⟩:Disk),0))else False)else False)else False)else(bif(d.fuse==1)then(f2 d fun r3=>(K (r3,6)))else(bif(decide (d.cache.length * 24≤room))then(bif(decide (0≤(d.cache.length:Int))&&decide ((d.cache.length:Int)≤(d.cache.length:Int))&&(d.cache.length:Int)==(d.cache.length:Int))then(bif(decide (((sub d.cache 0 (Int.toNat (d.cache.length:Int))).length+([(⟨i,data⟩:Write)]:List Write).length) * 24≤room))then(K ((⟨d.sure,((sub d.cache 0 (Int.toNat (d.cache.length:Int)))++([(⟨i,data⟩:Write)]:List Write)),(IntKind.i64.wrap (d.fuse - 1)),d.dead⟩:Disk),0))else False)else False)else False))))))))
def F (d:Disk) (i:Int) (data:Str) (K:(Disk×Int)->Prop):Prop:=FV q172.F q173.F q174.F d i data K
def en:Entry:=mkEntry A C fun x=>F x.1 x.2.1 x.2.2.1
theorem eqv (f0:q172.T) (f1:q173.T) (f2:q174.T) (d:Disk) (i:Int) (data:Str) (K:(Disk×Int)->Prop):apure E (tv f0 f1 f2) (fun _=>none) 4 153 [enc (.st 1) d,enc (.int .i64) i,enc .str data] (ansK C K)=FV f0 f1 f2 d i data K:=by kernel_rfl
theorem loops:LoopsOk E tab (fun _=>none) 4 153:=lpn _ _ _ _
theorem det (d:Disk) (i:Int) (data:Str):Det (F d i data):=by
 unfold F FV
 repeat' with_reducible first|exact det_ret _|exact det_false|refine det_cond _ ?_ ?_|refine det_bind (q172.det _ _) (fun _=>?_)|refine det_bind (q173.det _) (fun _=>?_)|refine det_bind (q174.det _) (fun _=>?_)
theorem edet a:Det (en a):=mkD (fun x:Dens A=>det x.1 x.2.1 x.2.2.1) a
theorem ground:Ground E tab:=gnd (tbc q172.sound (tbc q173.sound (tbc q174.sound (tab_nil _)))) (dtc q172.edet (dtc q173.edet (dtc q174.edet dtn)))
theorem sound:EntrySound E 153 en:=mkSound ground loops (by kernel_rfl) (fun x K=>eqv q172.F q173.F q174.F x.1 x.2.1 x.2.2.1 K)
end q175
namespace q176
abbrev A:List Ty:=[(.slice .str),(.slice (.st 0))]
abbrev C:=(cTy (.slice .str))
abbrev T:Type:=(List Str)->(List Write)->((List Str)->Prop)->Prop
def tab:Tab:=[]
structure R where
def cR (_:R):St:={ fr:=fun _=>.top,hs:=hs0 }
def kR:Keep:={ ks:=[],bs:=[],hn:=0 }
structure L0 where
 sure:(List Str)
 t9:(List Write)
 t10:Int
 t11:Int
def c0 (x:L0):St:={ fr:=lookL .top [(0,(.slr 1)),(9,(.sl .any (.st 0) x.t9)),(10,(.int .i64 x.t10)),(11,(.int .i64 x.t11))],hs:={ hp:=lookL .dead [(1,(.row false .str x.sure))],hn:=2 } }
def kp0:Keep:={ ks:=[(0,some 1),(9,none),(10,none),(11,none)],bs:=[],hn:=2 }
def p0 (st:St) (K:L0->Prop):Prop:=gHomes kp0 st <| gSlr (st.fr 0) fun c1=>gRow false .str (st.hs.hp c1) fun a2=>gSl .any (.st 0) (st.fr 9) fun a3=>gInt .i64 (st.fr 10) fun a4=>gInt .i64 (st.fr 11) fun a5=>K ⟨a2,a3,a4,a5⟩
set_option maxHeartbeats 4000000 in
theorem p0_ok (st:St) (K:L0->Prop) (h:p0 st K):∃ x,keepSt kp0 st=c0 x∧K x:=by
 obtain ⟨h0,h⟩:=gHomes_elim h
 obtain ⟨c1,h1,h⟩:=gSlr_elim h
 obtain ⟨a2,h2,h⟩:=gRow_elim h
 obtain ⟨a3,h3,h⟩:=gSl_elim h
 obtain ⟨a4,h4,h⟩:=gInt_elim h
 obtain ⟨a5,h5,h⟩:=gInt_elim h
 refine⟨_,?_,h⟩
 simp only [keepSt,h0]
 simp only [kp0,List.map,List.filterMap,homeOf,h1,h2,h3,h4,h5,hmOf,List.append_nil,cond_true]
 rfl
def b0 (rec kx:L0->Prop) (kr:R->Prop) (x:L0):Prop:=
 (bif(decide (x.t11 < x.t10))then(oget (getI x.t9 x.t11) fun v1=>(bif(decide (0≤v1.sector)&&decide (v1.sector < (x.sure.length:Int)))then(rec ⟨(x.sure.set (Int.toNat v1.sector) v1.data),x.t9,x.t10,(IntKind.i64.wrap (x.t11+1))⟩)else False))else(kx ⟨x.sure,x.t9,x.t10,x.t11⟩))
def lt:Nat->Option LSpec
 | 0=>some (mkLoop 0 kp0 kR p0 c0 cR b0)
 | _=>none
def F (sure:(List Str)) (writes:(List Write)) (K:(List Str)->Prop):Prop:=
 (bif(decide (sure.length * 16≤room))then(∃ n,loopB b0 n (fun x2=>(K x2.sure)) (fun _=>False) ⟨sure,writes,(writes.length:Int),0⟩)else False)
def en:Entry:=mkEntry A C fun x=>F x.1 x.2.1
theorem eqv (sure:(List Str)) (writes:(List Write)) (K:(List Str)->Prop):apure E tab lt 4 215 [enc (.slice .str) sure,enc (.slice (.st 0)) writes] (ansK C K)=F sure writes K:=by kernel_rfl
theorem l0v (R:St->Prop) (Kx:Nat->St->Prop) (Kr:St->Prop) (x:L0):acode E tab (afun E tab 4) 23 lt ((loopsIn E.P 215).getD 0 (0,.skip)).2 0 (fun s=>R (keepSt kp0 s)) (fun j s=>Kx j (keepSt kp0 s)) (fun s=>Kr (keepSt kR s)) (c0 x)=b0 (fun x=>R (c0 x)) (fun x=>Kx 0 (c0 x)) (fun r=>Kr (cR r)) x:=by kernel_rfl
theorem l0_ok:LSound E tab (afun E tab 4) 23 lt 0 ((loopsIn E.P 215).getD 0 (0,.skip)).2 (mkLoop 0 kp0 kR p0 c0 cR b0):=mkLoop_sound (by decide) (by decide) p0_ok (fun R Kx Kr x=>l0v  R Kx Kr x)
theorem loops:LoopsOk E tab lt 4 215:=loops_of (nt:=23) (ids:=[0]) (by kernel_rfl) (by kernel_rfl) (by
 intro k i hk l hl
 match k,hk with
 | 0,hk=>cases hk;cases hl;exact l0_ok
 | _+1,hk=>exact absurd hk (by simp))
theorem det (sure:(List Str)) (writes:(List Write)):Det (F sure writes):=by
 unfold F
 repeat' with_reducible first|exact det_ret _|exact det_false|refine det_cond _ ?_ ?_|refine det_oget _ (fun _=>?_)|refine det_loop (fun _=>?_) (fun _=>?_) (fun _=>?_) _ | unfold b0
theorem edet a:Det (en a):=mkD (fun x:Dens A=>det x.1 x.2.1) a
theorem ground:Ground E tab:=gnd (tab_nil _) dtn
theorem sound:EntrySound E 215 en:=mkSound ground loops (by kernel_rfl) (fun x K=>eqv  x.1 x.2.1 K)
end q176
namespace q177
abbrev A:List Ty:=[(.st 1)]
abbrev C:=(cTwo (.st 1) (.int .i64))
abbrev T:Type:=Disk->((Disk×Int)->Prop)->Prop
def tv (f0:q176.T) (f1:q174.T):Tab:=[(215,mkEntry q176.A q176.C fun x=>f0 x.1 x.2.1),(151,mkEntry q174.A q174.C fun x=>f1 x.1)]
def tab:Tab:=tv q176.F q174.F
def FV (f0:q176.T) (f1:q174.T) (d:Disk) (K:(Disk×Int)->Prop):Prop:=
 (bif d.dead then(K (d,6))else(bif(d.fuse==0)then(f0 d.sure d.cache fun r1=>(K ((⟨r1,([]:List Write),d.fuse,d.dead⟩:Disk),0)))else(bif(d.fuse==1)then(f1 d fun r2=>(K (r2,6)))else(f0 d.sure d.cache fun r3=>(K ((⟨r3,([]:List Write),(IntKind.i64.wrap (d.fuse - 1)),d.dead⟩:Disk),0))))))
def F (d:Disk) (K:(Disk×Int)->Prop):Prop:=FV q176.F q174.F d K
def en:Entry:=mkEntry A C fun x=>F x.1
theorem eqv (f0:q176.T) (f1:q174.T) (d:Disk) (K:(Disk×Int)->Prop):apure E (tv f0 f1) (fun _=>none) 4 154 [enc (.st 1) d] (ansK C K)=FV f0 f1 d K:=by kernel_rfl
theorem loops:LoopsOk E tab (fun _=>none) 4 154:=lpn _ _ _ _
theorem det (d:Disk):Det (F d):=by
 unfold F FV
 repeat' with_reducible first|exact det_ret _|refine det_cond _ ?_ ?_|refine det_bind (q176.det _ _) (fun _=>?_)|refine det_bind (q174.det _) (fun _=>?_)
theorem edet a:Det (en a):=mkD (fun x:Dens A=>det x.1) a
theorem ground:Ground E tab:=gnd (tbc q176.sound (tbc q174.sound (tab_nil _))) (dtc q176.edet (dtc q174.edet dtn))
theorem sound:EntrySound E 154 en:=mkSound ground loops (by kernel_rfl) (fun x K=>eqv q176.F q174.F x.1 K)
end q177
namespace q178
abbrev A:List Ty:=[(.st 1),(.st 3)]
abbrev C:=(cTwo (.st 1) (.int .i64))
abbrev T:Type:=Disk->Super->((Disk×Int)->Prop)->Prop
def tv (f0:q170.T) (f1:q171.T) (f2:q175.T) (f3:q177.T):Tab:=[(205,mkEntry q170.A q170.C fun x=>f0 x.1),(206,mkEntry q171.A q171.C fun x=>f1 x.1 x.2.1),(153,mkEntry q175.A q175.C fun x=>f2 x.1 x.2.1 x.2.2.1),(154,mkEntry q177.A q177.C fun x=>f3 x.1)]
def tab:Tab:=tv q170.F q171.F q175.F q177.F
def FV (f0:q170.T) (f1:q171.T) (f2:q175.T) (f3:q177.T) (d:Disk) (s:Super) (K:(Disk×Int)->Prop):Prop:=
 (f0 s fun r1=>(bif(r1.2 != 0)then(K (d,1))else(f1 d s fun r2=>(bif(!r2)then(K (d,1))else(f2 d 0 r1.1 fun r3=>(bif(r3.2 != 0)then(K (r3.1,r3.2))else(f3 r3.1 fun r4=>(K (r4.1,r4.2)))))))))
def F (d:Disk) (s:Super) (K:(Disk×Int)->Prop):Prop:=FV q170.F q171.F q175.F q177.F d s K
def en:Entry:=mkEntry A C fun x=>F x.1 x.2.1
theorem eqv (f0:q170.T) (f1:q171.T) (f2:q175.T) (f3:q177.T) (d:Disk) (s:Super) (K:(Disk×Int)->Prop):apure E (tv f0 f1 f2 f3) (fun _=>none) 4 143 [enc (.st 1) d,enc (.st 3) s] (ansK C K)=FV f0 f1 f2 f3 d s K:=by kernel_rfl
theorem loops:LoopsOk E tab (fun _=>none) 4 143:=lpn _ _ _ _
theorem det (d:Disk) (s:Super):Det (F d s):=by
 unfold F FV
 repeat' with_reducible first|exact det_ret _|refine det_cond _ ?_ ?_|refine det_bind (q170.det _) (fun _=>?_)|refine det_bind (q171.det _ _) (fun _=>?_)|refine det_bind (q175.det _ _ _) (fun _=>?_)|refine det_bind (q177.det _) (fun _=>?_)
theorem edet a:Det (en a):=mkD (fun x:Dens A=>det x.1 x.2.1) a
theorem ground:Ground E tab:=gnd (tbc q170.sound (tbc q171.sound (tbc q175.sound (tbc q177.sound (tab_nil _))))) (dtc q170.edet (dtc q171.edet (dtc q175.edet (dtc q177.edet dtn))))
theorem sound:EntrySound E 143 en:=mkSound ground loops (by kernel_rfl) (fun x K=>eqv q170.F q171.F q175.F q177.F x.1 x.2.1 K)
end q178
namespace q179
abbrev A:List Ty:=[(.st 8),(.st 3)]
abbrev C:=(cTwo (.st 8) (.int .i64))
abbrev T:Type:=Store->Super->((Store×Int)->Prop)->Prop
def tv (f0:q178.T):Tab:=[(143,mkEntry q178.A q178.C fun x=>f0 x.1 x.2.1)]
def tab:Tab:=tv q178.F
def FV (f0:q178.T) (s:Store) (b_1:Super) (K:(Store×Int)->Prop):Prop:=
 (bif((b_1.blocks==s.sup.blocks)&&(((b_1.vector.current==s.sup.vector.current)&&((b_1.vector.bitmap==s.sup.vector.bitmap)&&(((b_1.vector.old0==s.sup.vector.old0)&&((b_1.vector.old1==s.sup.vector.old1)&&true))&&true)))&&((b_1.inc==s.sup.inc)&&((b_1.pri==s.sup.pri)&&((b_1.dis==s.sup.dis)&&true)))))then(K (s,0))else(f0 s.disk b_1 fun r1=>(bif(r1.2==0)then(K ((⟨r1.1,b_1,s.mask⟩:Store),r1.2))else(K ((⟨r1.1,s.sup,s.mask⟩:Store),r1.2)))))
def F (s:Store) (b_1:Super) (K:(Store×Int)->Prop):Prop:=FV q178.F s b_1 K
def en:Entry:=mkEntry A C fun x=>F x.1 x.2.1
theorem eqv (f0:q178.T) (s:Store) (b_1:Super) (K:(Store×Int)->Prop):apure E (tv f0) (fun _=>none) 4 85 [enc (.st 8) s,enc (.st 3) b_1] (ansK C K)=FV f0 s b_1 K:=by kernel_rfl
theorem loops:LoopsOk E tab (fun _=>none) 4 85:=lpn _ _ _ _
theorem det (s:Store) (b_1:Super):Det (F s b_1):=by
 unfold F FV
 repeat' with_reducible first|exact det_ret _|refine det_cond _ ?_ ?_|refine det_bind (q178.det _ _) (fun _=>?_)
theorem edet a:Det (en a):=mkD (fun x:Dens A=>det x.1 x.2.1) a
theorem ground:Ground E tab:=gnd (tbc q178.sound (tab_nil _)) (dtc q178.edet dtn)
theorem sound:EntrySound E 85 en:=mkSound ground loops (by kernel_rfl) (fun x K=>eqv q178.F x.1 x.2.1 K)
end q179
namespace q180
abbrev A:List Ty:=[(.st 13)]
abbrev C:=(cTy (.st 13))
abbrev T:Type:=Node->(Node->Prop)->Prop
def tv (f0:q174.T):Tab:=[(151,mkEntry q174.A q174.C fun x=>f0 x.1)]
def tab:Tab:=tv q174.F
def FV (f0:q174.T) (n_0:Node) (K:Node->Prop):Prop:=
 (f0 n_0.store.disk fun r1=>(K (⟨n_0.id,false,(⟨r1,(⟨0,(⟨0,0,0,0⟩:Vec),false,false,false⟩:Super),0⟩:Store),false,0,0,(⟨0,(⟨0,0,0,0⟩:Vec),false,false,false,false,0⟩:Hello),false,(⟨false,0,0,([]:Str)⟩:Req),false,0,0,false,n_0.draws,n_0.mints⟩:Node)))
def F (n_0:Node) (K:Node->Prop):Prop:=FV q174.F n_0 K
def en:Entry:=mkEntry A C fun x=>F x.1
theorem eqv (f0:q174.T) (n_0:Node) (K:Node->Prop):apure E (tv f0) (fun _=>none) 4 93 [enc (.st 13) n_0] (ansK C K)=FV f0 n_0 K:=by kernel_rfl
theorem loops:LoopsOk E tab (fun _=>none) 4 93:=lpn _ _ _ _
theorem det (n_0:Node):Det (F n_0):=by
 unfold F FV
 repeat' with_reducible first|exact det_ret _|refine det_bind (q174.det _) (fun _=>?_)
theorem edet a:Det (en a):=mkD (fun x:Dens A=>det x.1) a
theorem ground:Ground E tab:=gnd (tbc q174.sound (tab_nil _)) (dtc q174.edet dtn)
theorem sound:EntrySound E 93 en:=mkSound ground loops (by kernel_rfl) (fun x K=>eqv q174.F x.1 K)
end q180
namespace q181
abbrev A:List Ty:=[(.st 17),(.st 4),(.st 4)]
abbrev C:=(cTy (.int .u32))
abbrev T:Type:=Verdict->Hello->Hello->(Int->Prop)->Prop
def tv (f0:q160.T) (f1:q136.T):Tab:=[(117,mkEntry q160.A q160.C fun x=>f0 x.1),(119,mkEntry q136.A q136.C fun x=>f1 x.1)]
def tab:Tab:=tv q160.F q136.F
def FV (f0:q160.T) (f1:q136.T) (v:Verdict) (x_1:Hello) (y:Hello) (K:Int->Prop):Prop:=
 (bif(v.kind==2)then(f0 ([x_1.mask,y.mask]:List Int) fun r1=>(K r1))else(bif(v.kind==3)then(f1 x_1.blocks fun r2=>(K r2))else(K 0)))
def F (v:Verdict) (x_1:Hello) (y:Hello) (K:Int->Prop):Prop:=FV q160.F q136.F v x_1 y K
def en:Entry:=mkEntry A C fun x=>F x.1 x.2.1 x.2.2.1
theorem eqv (f0:q160.T) (f1:q136.T) (v:Verdict) (x_1:Hello) (y:Hello) (K:Int->Prop):apure E (tv f0 f1) (fun _=>none) 4 67 [enc (.st 17) v,enc (.st 4) x_1,enc (.st 4) y] (ansK C K)=FV f0 f1 v x_1 y K:=by kernel_rfl
theorem loops:LoopsOk E tab (fun _=>none) 4 67:=lpn _ _ _ _
theorem det (v:Verdict) (x_1:Hello) (y:Hello):Det (F v x_1 y):=by
 unfold F FV
 repeat' with_reducible first|exact det_ret _|refine det_cond _ ?_ ?_|refine det_bind (q160.det _) (fun _=>?_)|refine det_bind (q136.det _) (fun _=>?_)
theorem edet a:Det (en a):=mkD (fun x:Dens A=>det x.1 x.2.1 x.2.2.1) a
theorem ground:Ground E tab:=gnd (tbc q160.sound (tbc q136.sound (tab_nil _))) (dtc q160.edet (dtc q136.edet dtn))
theorem sound:EntrySound E 67 en:=mkSound ground loops (by kernel_rfl) (fun x K=>eqv q160.F q136.F x.1 x.2.1 x.2.2.1 K)
end q181
namespace q182
abbrev A:List Ty:=[(.st 1),(.int .u32)]
abbrev C:=(cTy .bool)
abbrev T:Type:=Disk->Int->(Bool->Prop)->Prop
def tv (f0:q137.T):Tab:=[(216,mkEntry q137.A q137.C fun x=>f0 x.1 x.2.1)]
def tab:Tab:=tv q137.F
def FV (f0:q137.T) (d:Disk) (m:Int) (K:Bool->Prop):Prop:=
 (f0 m (IntKind.i64.wrap ((d.sure.length:Int) - 2)) fun r1=>(K r1))
def F (d:Disk) (m:Int) (K:Bool->Prop):Prop:=FV q137.F d m K
def en:Entry:=mkEntry A C fun x=>F x.1 x.2.1
theorem eqv (f0:q137.T) (d:Disk) (m:Int) (K:Bool->Prop):apure E (tv f0) (fun _=>none) 4 156 [enc (.st 1) d,enc (.int .u32) m] (ansK C K)=FV f0 d m K:=by kernel_rfl
theorem loops:LoopsOk E tab (fun _=>none) 4 156:=lpn _ _ _ _
theorem det (d:Disk) (m:Int):Det (F d m):=by
 unfold F FV
 repeat' with_reducible first|exact det_ret _|refine det_bind (q137.det _ _) (fun _=>?_)
theorem edet a:Det (en a):=mkD (fun x:Dens A=>det x.1 x.2.1) a
theorem ground:Ground E tab:=gnd (tbc q137.sound (tab_nil _)) (dtc q137.edet dtn)
theorem sound:EntrySound E 156 en:=mkSound ground loops (by kernel_rfl) (fun x K=>eqv q137.F x.1 x.2.1 K)
end q182
namespace q183
abbrev A:List Ty:=[(.st 1),(.int .u32)]
abbrev C:=(cTwo (.st 1) (.int .i64))
abbrev T:Type:=Disk->Int->((Disk×Int)->Prop)->Prop
def tv (f0:q182.T) (f1:q168.T) (f2:q169.T) (f3:q175.T):Tab:=[(156,mkEntry q182.A q182.C fun x=>f0 x.1 x.2.1),(158,mkEntry q168.A q168.C fun x=>f1 x.1),(157,mkEntry q169.A q169.C fun x=>f2 x.1),(153,mkEntry q175.A q175.C fun x=>f3 x.1 x.2.1 x.2.2.1)]
def tab:Tab:=tv q182.F q168.F q169.F q175.F
def FV (f0:q182.T) (f1:q168.T) (f2:q169.T) (f3:q175.T) (d:Disk) (m:Int) (K:(Disk×Int)->Prop):Prop:=
 (f0 d m fun r1=>(bif(!r1)then(K (d,1))else(f1 m fun r2=>(f2 r2 fun r3=>(f3 d 1 r3 fun r4=>(K (r4.1,r4.2)))))))
def F (d:Disk) (m:Int) (K:(Disk×Int)->Prop):Prop:=FV q182.F q168.F q169.F q175.F d m K
def en:Entry:=mkEntry A C fun x=>F x.1 x.2.1
theorem eqv (f0:q182.T) (f1:q168.T) (f2:q169.T) (f3:q175.T) (d:Disk) (m:Int) (K:(Disk×Int)->Prop):apure E (tv f0 f1 f2 f3) (fun _=>none) 4 98 [enc (.st 1) d,enc (.int .u32) m] (ansK C K)=FV f0 f1 f2 f3 d m K:=by kernel_rfl
theorem loops:LoopsOk E tab (fun _=>none) 4 98:=lpn _ _ _ _
theorem det (d:Disk) (m:Int):Det (F d m):=by
 unfold F FV
 repeat' with_reducible first|exact det_ret _|refine det_cond _ ?_ ?_|refine det_bind (q182.det _ _) (fun _=>?_)|refine det_bind (q168.det _) (fun _=>?_)|refine det_bind (q169.det _) (fun _=>?_)|refine det_bind (q175.det _ _ _) (fun _=>?_)
theorem edet a:Det (en a):=mkD (fun x:Dens A=>det x.1 x.2.1) a
theorem ground:Ground E tab:=gnd (tbc q182.sound (tbc q168.sound (tbc q169.sound (tbc q175.sound (tab_nil _))))) (dtc q182.edet (dtc q168.edet (dtc q169.edet (dtc q175.edet dtn))))
theorem sound:EntrySound E 98 en:=mkSound ground loops (by kernel_rfl) (fun x K=>eqv q182.F q168.F q169.F q175.F x.1 x.2.1 K)
end q183
end Gm
end
