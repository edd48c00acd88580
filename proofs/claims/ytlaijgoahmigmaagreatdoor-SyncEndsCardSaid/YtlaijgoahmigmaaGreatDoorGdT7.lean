/- Printed by a program (gen.py): the functions' answers, and that they are so. -/
import Derived.Test.YtlaijgoahmigmaaGreatDoorGdT6
set_option linter.unusedVariables false
set_option maxRecDepth 100000
namespace Gm
open Go Go.Proofs
namespace q178
abbrev A:List Ty:=[(.slice (.st 10)),(.slice (.st 10))]
abbrev C:=(cTy .bool)
abbrev T:Type:=(List Mint)->(List Mint)->(Bool->Prop)->Prop
noncomputable def tab:Tab:=[]
structure R where
 t4:Bool
def cR (x:R):St:={ fr:=lookL .top [(4,(.bool x.t4))],hs:={ hp:=lookL .dead [],hn:=0 } }
def kR:Keep:={ ks:=[(4,none)],bs:=[],hn:=0 }
structure L0 where
 a:(List Mint)
 b0:(List Mint)
 i:Int
def c0 (x:L0):St:={ fr:=lookL .top [(0,(.sl .any (.st 10) x.a)),(1,(.sl .any (.st 10) x.b0)),(5,(.int .i64 x.i))],hs:={ hp:=lookL .dead [],hn:=0 } }
def kp0:Keep:={ ks:=[(0,none),(1,none),(5,none)],bs:=[],hn:=0 }
def p0 (st:St) (K:L0->Prop):Prop:=gSl .any (.st 10) (st.fr 0) fun a1=>gSl .any (.st 10) (st.fr 1) fun a2=>gInt .i64 (st.fr 5) fun a3=>K ⟨a1,a2,a3⟩
set_option maxHeartbeats 4000000 in
theorem p0_ok (st:St) (K:L0->Prop) (h:p0 st K):∃ x,keepSt kp0 st=c0 x∧K x:=by
 obtain ⟨a1,h0,h⟩:=gSl_elim h
 obtain ⟨a2,h1,h⟩:=gSl_elim h
 obtain ⟨a3,h2,h⟩:=gInt_elim h
 refine⟨_,?_,h⟩
 simp only [keepSt,kp0,List.map,h0,h1,h2]
 rfl
def b0 (rec kx:L0->Prop) (kr:R->Prop) (x:L0):Prop:=
 (bif(decide (x.i < (x.a.length:Int)))then(oget (getI x.a x.i) fun v1=>(oget (getI x.b0 x.i) fun v2=>(bif(!((v1.gen==v2.gen)&&((v1.parent==v2.parent)&&((v1.node==v2.node)&&true))))then(kr ⟨false⟩)else(rec ⟨x.a,x.b0,(IntKind.i64.wrap (x.i+1))⟩))))else(kx ⟨x.a,x.b0,x.i⟩))
def lt:Nat->Option LSpec
 | 0=>some (mkLoop 0 kp0 kR p0 c0 cR b0)
 | _=>none
def F (a:(List Mint)) (b_1:(List Mint)) (K:Bool->Prop):Prop:=
 (bif((a.length:Int) != (b_1.length:Int))then(K false)else(∃ n,loopB b0 n (fun x3=>(K true)) (fun r4=>(K r4.t4)) ⟨a,b_1,0⟩))
noncomputable def en:Entry:=mkEntry A C fun x=>F x.1 x.2.1
theorem eqv (a:(List Mint)) (b_1:(List Mint)) (K:Bool->Prop):apure E tab lt 4 61 [enc (.slice (.st 10)) a,enc (.slice (.st 10)) b_1] (ansK C K)=F a b_1 K:=by kernel_rfl
theorem l0v (R:St->Prop) (Kx:Nat->St->Prop) (Kr:St->Prop) (x:L0):acode E tab (afun E tab 4) 26 lt ((loopsIn E.P 61).getD 0 (0,.skip)).2 0 (fun s=>R (keepSt kp0 s)) (fun j s=>Kx j (keepSt kp0 s)) (fun s=>Kr (keepSt kR s)) (c0 x)=b0 (fun x=>R (c0 x)) (fun x=>Kx 0 (c0 x)) (fun r=>Kr (cR r)) x:=by kernel_rfl
theorem l0_ok:LSound E tab (afun E tab 4) 26 lt 0 ((loopsIn E.P 61).getD 0 (0,.skip)).2 (mkLoop 0 kp0 kR p0 c0 cR b0):=mkLoop_sound (by decide) (by decide) p0_ok (fun R Kx Kr x=>l0v  R Kx Kr x)
theorem loops:LoopsOk E tab lt 4 61:=loops_of (nt:=26) (ids:=[0]) (by kernel_rfl) (by kernel_rfl) (by
 intro k i hk l hl
 match k,hk with
 | 0,hk=>cases hk;cases hl;exact l0_ok
 | _+1,hk=>exact absurd hk (by simp))
theorem det (a:(List Mint)) (b_1:(List Mint)):Det (F a b_1):=by
 unfold F
 repeat' with_reducible first|exact det_ret _|refine det_cond _ ?_ ?_|refine det_oget _ (fun _=>?_)|refine det_loop (fun _=>?_) (fun _=>?_) (fun _=>?_) _ | unfold b0
theorem edet (a:List AV):Det (en a):=mkEntry_det (fun x:Dens A=>det x.1 x.2.1) a
theorem ground:Ground E tab:=⟨num,mixed,(tab_nil _),clone,dtab_nil,stab⟩
theorem sound:EntrySound E 61 en:=mkSound ground loops (by kernel_rfl) (fun (x:Dens A) K=>eqv  x.1 x.2.1 K)
end q178
namespace q179
abbrev A:List Ty:=[(.st 13),(.st 13)]
abbrev C:=(cTy .bool)
abbrev T:Type:=Node->Node->(Bool->Prop)->Prop
noncomputable def tv (f0:q176.T) (f1:q177.T) (f2:q178.T):Tab:=[(59,mkEntry q176.A q176.C fun x=>f0 x.1 x.2.1),(60,mkEntry q177.A q177.C fun x=>f1 x.1 x.2.1),(61,mkEntry q178.A q178.C fun x=>f2 x.1 x.2.1)]
noncomputable def tab:Tab:=tv q176.F q177.F q178.F
def FV (f0:q176.T) (f1:q177.T) (f2:q178.T) (a:Node) (b_1:Node) (K:Bool->Prop):Prop:=
 (f0 a.store b_1.store fun r1=>(bif(!r1)then(K false)else(f1 a.draws b_1.draws fun r2=>(bif(!r2)then(K false)else(f2 a.mints b_1.mints fun r3=>(bif(!r3)then(K false)else(bif(a.id==b_1.id)then(bif(a.up==b_1.up)then(bif(a.primary==b_1.primary)then(bif(a.state==b_1.state)then(bif(a.session==b_1.session)then(bif((a.peer.blocks==b_1.peer.blocks)&&(((a.peer.vector.current==b_1.peer.vector.current)&&((a.peer.vector.bitmap==b_1.peer.vector.bitmap)&&(((a.peer.vector.old0==b_1.peer.vector.old0)&&((a.peer.vector.old1==b_1.peer.vector.old1)&&true))&&true)))&&((a.peer.inc==b_1.peer.inc)&&((a.peer.was==b_1.peer.was)&&((a.peer.dis==b_1.peer.dis)&&((a.peer.pri==b_1.peer.pri)&&((a.peer.mask==b_1.peer.mask)&&true)))))))then(bif(a.peerPri==b_1.peerPri)then(bif((a.req.on==b_1.req.on)&&((a.req.id==b_1.req.id)&&((a.req.block==b_1.req.block)&&((a.req.data==b_1.req.data)&&true))))then(bif(a.asking==b_1.asking)then(bif(a.askId==b_1.askId)then(bif(a.wanted==b_1.wanted)then(K (a.minted==b_1.minted))else(K false))else(K false))else(K false))else(K false))else(K false))else(K false))else(K false))else(K false))else(K false))else(K false))else(K false))))))))
def F (a:Node) (b_1:Node) (K:Bool->Prop):Prop:=FV q176.F q177.F q178.F a b_1 K
noncomputable def en:Entry:=mkEntry A C fun x=>F x.1 x.2.1
theorem eqv (f0:q176.T) (f1:q177.T) (f2:q178.T) (a:Node) (b_1:Node) (K:Bool->Prop):apure E (tv f0 f1 f2) (fun _=>none) 4 22 [enc (.st 13) a,enc (.st 13) b_1] (ansK C K)=FV f0 f1 f2 a b_1 K:=by kernel_rfl
theorem loops:LoopsOk E tab (fun _=>none) 4 22:=loops_none _ _ _ _
theorem det (a:Node) (b_1:Node):Det (F a b_1):=by
 unfold F FV
 repeat' with_reducible first|exact det_ret _|refine det_cond _ ?_ ?_|refine det_bind (q176.det _ _) (fun _=>?_)|refine det_bind (q177.det _ _) (fun _=>?_)|refine det_bind (q178.det _ _) (fun _=>?_)
theorem edet (a:List AV):Det (en a):=mkEntry_det (fun x:Dens A=>det x.1 x.2.1) a
theorem ground:Ground E tab:=⟨num,mixed,(tab_cons q176.sound (tab_cons q177.sound (tab_cons q178.sound (tab_nil _)))),clone,(dtab_cons q176.edet (dtab_cons q177.edet (dtab_cons q178.edet dtab_nil))),stab⟩
theorem sound:EntrySound E 22 en:=mkSound ground loops (by kernel_rfl) (fun (x:Dens A) K=>eqv q176.F q177.F q178.F x.1 x.2.1 K)
end q179
namespace q180
abbrev A:List Ty:=[]
abbrev C:=(cTy .bool)
abbrev T:Type:=(Bool->Prop)->Prop
noncomputable def tv (f0:q127.T) (f1:q148.T) (f2:q170.T) (f3:q171.T) (f4:q172.T) (f5:q173.T) (f6:q174.T) (f7:q91.T) (f8:q9.T) (f9:q179.T):Tab:=[(34,mkEntry q127.A q127.C fun _=>f0),(35,mkEntry q148.A q148.C fun x=>f1 x.1 x.2.1),(14,mkEntry q170.A q170.C fun x=>f2 x.1 x.2.1 x.2.2.1),(36,mkEntry q171.A q171.C fun x=>f3 x.1 x.2.1),(37,mkEntry q172.A q172.C fun x=>f4 x.1),(38,mkEntry q173.A q173.C fun x=>f5 x.1),(39,mkEntry q174.A q174.C fun x=>f6 x.1),(40,mkEntry q91.A q91.C fun x=>f7 x.1),(41,mkEntry q9.A q9.C fun _=>f8),(22,mkEntry q179.A q179.C fun x=>f9 x.1 x.2.1)]
noncomputable def tab:Tab:=tv q127.F q148.F q170.F q171.F q172.F q173.F q174.F q91.F q9.F q179.F
def FV (f0:q127.T) (f1:q148.T) (f2:q170.T) (f3:q171.T) (f4:q172.T) (f5:q173.T) (f6:q174.T) (f7:q91.T) (f8:q9.T) (f9:q179.T) (K:Bool->Prop):Prop:=
 (f0 fun r1=>(bif(r1.n0.state != 3)then(K false)else(bif(r1.n1.state != 4)then(K false)else(f1 r1.n0 1 fun r2=>(f2 r1.n1 1 ([97,98,99,100,101,102,103,104]:Str) fun r3=>(f2 r1.n1 0 ([122,122,122,122,122,122,122,122]:Str) fun r4=>(f3 r1.n0 1 fun r5=>(f4 r5.1 fun r6=>(f5 r3.1 fun r7=>(f6 r1.n1 fun r8=>(bif((r2.2.length:Int) != 1)then(K false)else(bif((r3.2.length:Int) != 2)then(K false)else(bif((IntKind.i64.wrap ((IntKind.i64.wrap ((r4.2.length:Int)+(r5.2.length:Int)))+(r8.2.length:Int))) != 0)then(K false)else(bif((r6.2.length:Int) != 1)then(K false)else(oget (getI r2.2 0) fun v9=>(f7 v9.data fun r10=>(bif(r10.2==0)then(bif(r10.1.kind==6)then(bif(r10.1.data==([97,98,99,100,101,102,103,104]:Str))then(bif(!r3.1.store.sup.inc)then(f8 fun r11=>(bif((r3.1.store.sup.vector.current==9)&&((r3.1.store.sup.vector.bitmap==0)&&(((r3.1.store.sup.vector.old0==r11)&&((r3.1.store.sup.vector.old1==0)&&true))&&true)))then(bif(r3.1.store.mask==0)then(f9 r4.1 r1.n1 fun r12=>(bif r12 then(bif(r5.1.store.mask==0)then(bif(r6.1.state==2)then(bif((r6.1.store.sup.vector.current==r3.1.store.sup.vector.current)&&((r6.1.store.sup.vector.bitmap==r3.1.store.sup.vector.bitmap)&&(((r6.1.store.sup.vector.old0==r3.1.store.sup.vector.old0)&&((r6.1.store.sup.vector.old1==r3.1.store.sup.vector.old1)&&true))&&true)))then(K (r7.state==2))else(K false))else(K false))else(K false))else(K false)))else(K false))else(K false)))else(K false))else(K false))else(K false))else(K false))))))))))))))))))
def F (K:Bool->Prop):Prop:=FV q127.F q148.F q170.F q171.F q172.F q173.F q174.F q91.F q9.F q179.F K
noncomputable def en:Entry:=mkEntry A C fun _=>F
theorem eqv (f0:q127.T) (f1:q148.T) (f2:q170.T) (f3:q171.T) (f4:q172.T) (f5:q173.T) (f6:q174.T) (f7:q91.T) (f8:q9.T) (f9:q179.T) (K:Bool->Prop):apure E (tv f0 f1 f2 f3 f4 f5 f6 f7 f8 f9) (fun _=>none) 4 9 [] (ansK C K)=FV f0 f1 f2 f3 f4 f5 f6 f7 f8 f9 K:=by kernel_rfl
theorem eq (x:Dens A) (K:Bool->Prop):apure E tab (fun _=>none) 4 9 (encA A x) (ansK C K)=F K:=eqv q127.F q148.F q170.F q171.F q172.F q173.F q174.F q91.F q9.F q179.F K
theorem loops:LoopsOk E tab (fun _=>none) 4 9:=loops_none _ _ _ _
theorem det:Det (F):=by
 unfold F FV
 repeat' with_reducible first|exact det_ret _|refine det_cond _ ?_ ?_|refine det_oget _ (fun _=>?_)|refine det_bind (q127.det) (fun _=>?_)|refine det_bind (q148.det _ _) (fun _=>?_)|refine det_bind (q170.det _ _ _) (fun _=>?_)|refine det_bind (q171.det _ _) (fun _=>?_)|refine det_bind (q172.det _) (fun _=>?_)|refine det_bind (q173.det _) (fun _=>?_)|refine det_bind (q174.det _) (fun _=>?_)|refine det_bind (q91.det _) (fun _=>?_)|refine det_bind (q9.det) (fun _=>?_)|refine det_bind (q179.det _ _) (fun _=>?_)
theorem edet (a:List AV):Det (en a):=mkEntry_det (fun _:Dens A=>det) a
theorem ground:Ground E tab:=⟨num,mixed,(tab_cons q127.sound (tab_cons q148.sound (tab_cons q170.sound (tab_cons q171.sound (tab_cons q172.sound (tab_cons q173.sound (tab_cons q174.sound (tab_cons q91.sound (tab_cons q9.sound (tab_cons q179.sound (tab_nil _))))))))))),clone,(dtab_cons q127.edet (dtab_cons q148.edet (dtab_cons q170.edet (dtab_cons q171.edet (dtab_cons q172.edet (dtab_cons q173.edet (dtab_cons q174.edet (dtab_cons q91.edet (dtab_cons q9.edet (dtab_cons q179.edet dtab_nil)))))))))),stab⟩
theorem sound:EntrySound E 9 en:=mkSound ground loops (by kernel_rfl) (eq)
end q180
namespace q181
abbrev A:List Ty:=[(.slice (.st 12)),(.int .i64)]
abbrev C:=(cTy .bool)
abbrev T:Type:=(List Event)->Int->(Bool->Prop)->Prop
noncomputable def tab:Tab:=[]
structure R where
 t4:Bool
def cR (x:R):St:={ fr:=lookL .top [(4,(.bool x.t4))],hs:={ hp:=lookL .dead [],hn:=0 } }
def kR:Keep:={ ks:=[(4,none)],bs:=[],hn:=0 }
structure L0 where
 l:(List Event)
 i:Int
def c0 (x:L0):St:={ fr:=lookL .top [(0,(.sl .any (.st 12) x.l)),(5,(.int .i64 x.i))],hs:={ hp:=lookL .dead [],hn:=0 } }
def kp0:Keep:={ ks:=[(0,none),(5,none)],bs:=[],hn:=0 }
def p0 (st:St) (K:L0->Prop):Prop:=gSl .any (.st 12) (st.fr 0) fun a1=>gInt .i64 (st.fr 5) fun a2=>K ⟨a1,a2⟩
set_option maxHeartbeats 4000000 in
theorem p0_ok (st:St) (K:L0->Prop) (h:p0 st K):∃ x,keepSt kp0 st=c0 x∧K x:=by
 obtain ⟨a1,h0,h⟩:=gSl_elim h
 obtain ⟨a2,h1,h⟩:=gInt_elim h
 refine⟨_,?_,h⟩
 simp only [keepSt,kp0,List.map,h0,h1]
 rfl
def b0 (rec kx:L0->Prop) (kr:R->Prop) (x:L0):Prop:=
 (bif(decide (x.i < (x.l.length:Int)))then(oget (getI x.l x.i) fun v1=>(bif(decide ((v1.data.length:Int) > 300))then(kr ⟨true⟩)else(oget (getI x.l x.i) fun v2=>(bif(decide ((v2.keeps.length:Int) > 100))then(kr ⟨true⟩)else(rec ⟨x.l,(IntKind.i64.wrap (x.i+1))⟩)))))else(kx ⟨x.l,x.i⟩))
def lt:Nat->Option LSpec
 | 0=>some (mkLoop 0 kp0 kR p0 c0 cR b0)
 | _=>none
def F (l:(List Event)) (most:Int) (K:Bool->Prop):Prop:=
 (bif(decide ((l.length:Int) > most))then(K true)else(∃ n,loopB b0 n (fun x3=>(K false)) (fun r4=>(K r4.t4)) ⟨l,0⟩))
noncomputable def en:Entry:=mkEntry A C fun x=>F x.1 x.2.1
theorem eqv (l:(List Event)) (most:Int) (K:Bool->Prop):apure E tab lt 4 10 [enc (.slice (.st 12)) l,enc (.int .i64) most] (ansK C K)=F l most K:=by kernel_rfl
theorem l0v (R:St->Prop) (Kx:Nat->St->Prop) (Kr:St->Prop) (x:L0):acode E tab (afun E tab 4) 32 lt ((loopsIn E.P 10).getD 0 (0,.skip)).2 0 (fun s=>R (keepSt kp0 s)) (fun j s=>Kx j (keepSt kp0 s)) (fun s=>Kr (keepSt kR s)) (c0 x)=b0 (fun x=>R (c0 x)) (fun x=>Kx 0 (c0 x)) (fun r=>Kr (cR r)) x:=by kernel_rfl
theorem l0_ok:LSound E tab (afun E tab 4) 32 lt 0 ((loopsIn E.P 10).getD 0 (0,.skip)).2 (mkLoop 0 kp0 kR p0 c0 cR b0):=mkLoop_sound (by decide) (by decide) p0_ok (fun R Kx Kr x=>l0v  R Kx Kr x)
theorem loops:LoopsOk E tab lt 4 10:=loops_of (nt:=32) (ids:=[0]) (by kernel_rfl) (by kernel_rfl) (by
 intro k i hk l hl
 match k,hk with
 | 0,hk=>cases hk;cases hl;exact l0_ok
 | _+1,hk=>exact absurd hk (by simp))
theorem det (l:(List Event)) (most:Int):Det (F l most):=by
 unfold F
 repeat' with_reducible first|exact det_ret _|refine det_cond _ ?_ ?_|refine det_oget _ (fun _=>?_)|refine det_loop (fun _=>?_) (fun _=>?_) (fun _=>?_) _ | unfold b0
theorem edet (a:List AV):Det (en a):=mkEntry_det (fun x:Dens A=>det x.1 x.2.1) a
theorem ground:Ground E tab:=⟨num,mixed,(tab_nil _),clone,dtab_nil,stab⟩
theorem sound:EntrySound E 10 en:=mkSound ground loops (by kernel_rfl) (fun (x:Dens A) K=>eqv  x.1 x.2.1 K)
end q181
namespace q182
abbrev A:List Ty:=[(.st 16)]
abbrev C:=(cTy (.int .i64))
abbrev T:Type:=Case->(Int->Prop)->Prop
noncomputable def tab:Tab:=[]
def F (c:Case) (K:Int->Prop):Prop:=
 (bif c.side then(K 1)else(K 0))
noncomputable def en:Entry:=mkEntry A C fun x=>F x.1
theorem eqv (c:Case) (K:Int->Prop):apure E tab (fun _=>none) 4 42 [enc (.st 16) c] (ansK C K)=F c K:=by kernel_rfl
theorem eq (x:Dens A) (K:Int->Prop):apure E tab (fun _=>none) 4 42 (encA A x) (ansK C K)=F x.1 K:=eqv  x.1 K
theorem loops:LoopsOk E tab (fun _=>none) 4 42:=loops_none _ _ _ _
theorem det (c:Case):Det (F c):=by
 unfold F
 repeat' with_reducible first|exact det_ret _|refine det_cond _ ?_ ?_
theorem edet (a:List AV):Det (en a):=mkEntry_det (fun x:Dens A=>det x.1) a
theorem ground:Ground E tab:=⟨num,mixed,(tab_nil _),clone,dtab_nil,stab⟩
theorem sound:EntrySound E 42 en:=mkSound ground loops (by kernel_rfl) (eq)
end q182
namespace q183
abbrev A:List Ty:=[(.st 16)]
abbrev C:=(cTy (.st 13))
abbrev T:Type:=Case->(Node->Prop)->Prop
noncomputable def tv (f0:q126.T) (f1:q182.T):Tab:=[(27,mkEntry q126.A q126.C fun x=>f0 x.1 x.2.1),(42,mkEntry q182.A q182.C fun x=>f1 x.1)]
noncomputable def tab:Tab:=tv q126.F q182.F
def FV (f0:q126.T) (f1:q182.T) (c:Case) (K:Node->Prop):Prop:=
 (f0 c.blocks c.l fun r1=>(f1 c fun r2=>(bif(r2==0)then(K r1.n0)else(bif(r2==1)then(K r1.n1)else False))))
def F (c:Case) (K:Node->Prop):Prop:=FV q126.F q182.F c K
noncomputable def en:Entry:=mkEntry A C fun x=>F x.1
theorem eqv (f0:q126.T) (f1:q182.T) (c:Case) (K:Node->Prop):apure E (tv f0 f1) (fun _=>none) 4 11 [enc (.st 16) c] (ansK C K)=FV f0 f1 c K:=by kernel_rfl
theorem eq (x:Dens A) (K:Node->Prop):apure E tab (fun _=>none) 4 11 (encA A x) (ansK C K)=F x.1 K:=eqv q126.F q182.F x.1 K
theorem loops:LoopsOk E tab (fun _=>none) 4 11:=loops_none _ _ _ _
theorem det (c:Case):Det (F c):=by
 unfold F FV
 repeat' with_reducible first|exact det_ret _|exact det_false|refine det_cond _ ?_ ?_|refine det_bind (q126.det _ _) (fun _=>?_)|refine det_bind (q182.det _) (fun _=>?_)
theorem edet (a:List AV):Det (en a):=mkEntry_det (fun x:Dens A=>det x.1) a
theorem ground:Ground E tab:=⟨num,mixed,(tab_cons q126.sound (tab_cons q182.sound (tab_nil _))),clone,(dtab_cons q126.edet (dtab_cons q182.edet dtab_nil)),stab⟩
theorem sound:EntrySound E 11 en:=mkSound ground loops (by kernel_rfl) (eq)
end q183
namespace q184
abbrev A:List Ty:=[(.st 16),(.int .u8),.bool]
abbrev C:=(cTy .bool)
abbrev T:Type:=Case->Int->Bool->(Bool->Prop)->Prop
noncomputable def tv (f0:q180.T) (f1:q181.T) (f2:q183.T) (f3:q99.T) (f4:q123.T) (f5:q170.T) (f6:q24.T) (f7:q43.T) (f8:q68.T):Tab:=[(9,mkEntry q180.A q180.C fun _=>f0),(10,mkEntry q181.A q181.C fun x=>f1 x.1 x.2.1),(11,mkEntry q183.A q183.C fun x=>f2 x.1),(12,mkEntry q99.A q99.C fun x=>f3 x.1),(13,mkEntry q123.A q123.C fun x=>f4 x.1 x.2.1),(14,mkEntry q170.A q170.C fun x=>f5 x.1 x.2.1 x.2.2.1),(16,mkEntry q24.A q24.C fun x=>f6 x.1 x.2.1),(15,mkEntry q43.A q43.C fun x=>f7 x.1),(17,mkEntry q68.A q68.C fun x=>f8 x.1 x.2.1)]
noncomputable def tab:Tab:=tv q180.F q181.F q183.F q99.F q123.F q170.F q24.F q43.F q68.F
structure R where
 t6:Bool
def cR (x:R):St:={ fr:=lookL .top [(6,(.bool x.t6))],hs:={ hp:=lookL .dead [],hn:=2 } }
def kR:Keep:={ ks:=[(6,none)],bs:=[],hn:=2 }
structure L0 where
 keep:Bool
 blocks:(List Int)
 got:Int
 i:Int
 m1:Node
def c0 (x:L0):St:={ fr:=lookL .top [(2,(.bool x.keep)),(7,(.ptr 1 0)),(8,(.sl .any (.int .i64) x.blocks)),(9,(.int .i64 x.got)),(10,(.int .i64 x.i))],hs:={ hp:=lookL .dead [(1,(.cells [(.int .i64 x.m1.id),(.bool x.m1.up),(.sl .any .str x.m1.store.disk.sure),(.sl .any (.st 0) x.m1.store.disk.cache),(.int .i64 x.m1.store.disk.fuse),(.bool x.m1.store.disk.dead),(.int .i64 x.m1.store.sup.blocks),(.int .u64 x.m1.store.sup.vector.current),(.int .u64 x.m1.store.sup.vector.bitmap),(.int .u64 x.m1.store.sup.vector.old0),(.int .u64 x.m1.store.sup.vector.old1),(.bool x.m1.store.sup.inc),(.bool x.m1.store.sup.pri),(.bool x.m1.store.sup.dis),(.int .u32 x.m1.store.mask),(.bool x.m1.primary),(.int .i64 x.m1.state),(.int .u64 x.m1.session),(.int .i64 x.m1.peer.blocks),(.int .u64 x.m1.peer.vector.current),(.int .u64 x.m1.peer.vector.bitmap),(.int .u64 x.m1.peer.vector.old0),(.int .u64 x.m1.peer.vector.old1),(.bool x.m1.peer.inc),(.bool x.m1.peer.was),(.bool x.m1.peer.dis),(.bool x.m1.peer.pri),(.int .u32 x.m1.peer.mask),(.bool x.m1.peerPri),(.bool x.m1.req.on),(.int .i64 x.m1.req.id),(.int .i64 x.m1.req.block),(.str x.m1.req.data),(.bool x.m1.asking),(.int .i64 x.m1.askId),(.int .i64 x.m1.wanted),(.bool x.m1.minted),(.sl .any (.int .u64) x.m1.draws),(.sl .any (.st 10) x.m1.mints)]))],hn:=2 } }
def kp0:Keep:={ ks:=[(2,none),(7,none),(8,none),(9,none),(10,none)],bs:=[1],hn:=2,ts:=[(1,13)] }
def p0 (st:St) (K:L0->Prop):Prop:=gBool (st.fr 2) fun a1=>gPtr 1 0 (st.fr 7) <| gSl .any (.int .i64) (st.fr 8) fun a2=>gInt .i64 (st.fr 9) fun a3=>gInt .i64 (st.fr 10) fun a4=>gBlkS 13 (st.hs.hp 1) fun a5=>K ⟨a1,a2,a3,a4,a5⟩
set_option maxHeartbeats 4000000 in
theorem p0_ok (st:St) (K:L0->Prop) (h:p0 st K):∃ x,keepSt kp0 st=c0 x∧K x:=by
 obtain ⟨a1,h0,h⟩:=gBool_elim h
 obtain ⟨h1,h⟩:=gPtr_elim h
 obtain ⟨a2,h2,h⟩:=gSl_elim h
 obtain ⟨a3,h3,h⟩:=gInt_elim h
 obtain ⟨a4,h4,h⟩:=gInt_elim h
 obtain ⟨z5,a5,h5,y5,h⟩:=gBlkS_elim h
 have q5:∀ ok,keptB kp0 ok 1 (.cells z5)=.cells (encS 13 a5):=fun _=>y5
 simp only [kp0] at q5
 refine⟨_,?_,h⟩
 simp only [keepSt,kp0,List.map,h0,h1,h2,h3,h4,h5,q5]
 rfl
structure L2 where
 blocks:(List Int)
 i:Int
 m2:Store
def c2 (x:L2):St:={ fr:=lookL .top [(8,(.sl .any (.int .i64) x.blocks)),(11,(.ptr 2 0)),(13,(.int .i64 x.i))],hs:={ hp:=lookL .dead [(2,(.cells [(.sl .any .str x.m2.disk.sure),(.sl .any (.st 0) x.m2.disk.cache),(.int .i64 x.m2.disk.fuse),(.bool x.m2.disk.dead),(.int .i64 x.m2.sup.blocks),(.int .u64 x.m2.sup.vector.current),(.int .u64 x.m2.sup.vector.bitmap),(.int .u64 x.m2.sup.vector.old0),(.int .u64 x.m2.sup.vector.old1),(.bool x.m2.sup.inc),(.bool x.m2.sup.pri),(.bool x.m2.sup.dis),(.int .u32 x.m2.mask)]))],hn:=3 } }
def kp2:Keep:={ ks:=[(8,none),(11,none),(13,none)],bs:=[2],hn:=3,ts:=[(2,8)] }
def p2 (st:St) (K:L2->Prop):Prop:=gSl .any (.int .i64) (st.fr 8) fun a1=>gPtr 2 0 (st.fr 11) <| gInt .i64 (st.fr 13) fun a2=>gBlkS 8 (st.hs.hp 2) fun a3=>K ⟨a1,a2,a3⟩
set_option maxHeartbeats 4000000 in
theorem p2_ok (st:St) (K:L2->Prop) (h:p2 st K):∃ x,keepSt kp2 st=c2 x∧K x:=by
 obtain ⟨a1,h0,h⟩:=gSl_elim h
 obtain ⟨h1,h⟩:=gPtr_elim h
 obtain ⟨a2,h2,h⟩:=gInt_elim h
 obtain ⟨z3,a3,h3,y3,h⟩:=gBlkS_elim h
 have q3:∀ ok,keptB kp2 ok 2 (.cells z3)=.cells (encS 8 a3):=fun _=>y3
 simp only [kp2] at q3
 refine⟨_,?_,h⟩
 simp only [keepSt,kp2,List.map,h0,h1,h2,h3,q3]
 rfl
def b0V (f0:q180.T) (f1:q181.T) (f2:q183.T) (f3:q99.T) (f4:q123.T) (f5:q170.T) (f6:q24.T) (f7:q43.T) (f8:q68.T) (rec kx:L0->Prop) (kr:R->Prop) (x:L0):Prop:=
 (bif(decide (x.i < 40))then(bif x.m1.up then(bif x.m1.store.sup.inc then(bif(decide (x.m1.wanted < 1))then(kr ⟨false⟩)else(bif(decide (x.m1.wanted > x.m1.store.sup.blocks))then(kr ⟨false⟩)else(f5 x.m1 (IntKind.i64.wrap (x.m1.wanted - 1)) ([121,121,121,121,121,121,121,121]:Str) fun r6=>(rec ⟨x.keep,x.blocks,(IntKind.i64.wrap (x.got+1)),(IntKind.i64.wrap (x.i+1)),r6.1⟩))))else(kx ⟨x.keep,x.blocks,x.got,x.i,x.m1⟩))else(kx ⟨x.keep,x.blocks,x.got,x.i,x.m1⟩))else(kx ⟨x.keep,x.blocks,x.got,x.i,x.m1⟩))
def b2V (f0:q180.T) (f1:q181.T) (f2:q183.T) (f3:q99.T) (f4:q123.T) (f5:q170.T) (f6:q24.T) (f7:q43.T) (f8:q68.T) (rec kx:L2->Prop) (kr:R->Prop) (x:L2):Prop:=
 (bif(decide (x.i < (x.blocks.length:Int)))then(bif(!x.m2.sup.inc)then(oget (getI x.blocks x.i) fun v11=>(f8 x.m2 v11 fun r12=>(bif(!(r12.1==([121,121,121,121,121,121,121,121]:Str)))then(kr ⟨false⟩)else(rec ⟨x.blocks,(IntKind.i64.wrap (x.i+1)),x.m2⟩))))else(kx ⟨x.blocks,x.i,x.m2⟩))else(kx ⟨x.blocks,x.i,x.m2⟩))
def ltV (f0:q180.T) (f1:q181.T) (f2:q183.T) (f3:q99.T) (f4:q123.T) (f5:q170.T) (f6:q24.T) (f7:q43.T) (f8:q68.T):Nat->Option LSpec
 | 0=>some (mkLoop 0 kp0 kR p0 c0 cR (b0V f0 f1 f2 f3 f4 f5 f6 f7 f8))
 | 2=>some (mkLoop 2 kp2 kR p2 c2 cR (b2V f0 f1 f2 f3 f4 f5 f6 f7 f8))
 | _=>none
def lt:Nat->Option LSpec:=ltV q180.F q181.F q183.F q99.F q123.F q170.F q24.F q43.F q68.F
def FV (f0:q180.T) (f1:q181.T) (f2:q183.T) (f3:q99.T) (f4:q123.T) (f5:q170.T) (f6:q24.T) (f7:q43.T) (f8:q68.T) (c:Case) (fuse:Int) (keep:Bool) (K:Bool->Prop):Prop:=
 (f0 fun r1=>(bif(!r1)then(K false)else(f1 c.l 60 fun r2=>(bif r2 then(K true)else(f2 c fun r3=>(bif(r3.state != 4)then(K true)else(bif(!r3.store.sup.inc)then(K true)else(f3 r3.store.mask fun r4=>(f4 r3.store.disk (IntKind.i64.wrap fuse) fun r5=>(∃ n,loopB (b0V f0 f1 f2 f3 f4 f5 f6 f7 f8) n (fun x7=>(bif x7.m1.up then(bif(!x7.m1.store.sup.inc)then(bif(x7.m1.store.mask==0)then(bif(x7.m1.wanted==0)then(K (decide (x7.got≥(x7.blocks.length:Int))))else(K false))else(K false))else(K false))else(f6 x7.m1.store.disk ([x7.keep,x7.keep,x7.keep,x7.keep]:List Bool) fun r9=>(f7 r9 fun r10=>(bif(r10.2 != 0)then(K false)else(∃ n,loopB (b2V f0 f1 f2 f3 f4 f5 f6 f7 f8) n (fun x13=>(K true)) (fun r14=>(K r14.t6)) ⟨x7.blocks,0,r10.1⟩)))))) (fun r8=>(K r8.t6)) ⟨keep,r4,0,0,(⟨r3.id,r3.up,(⟨r5,r3.store.sup,r3.store.mask⟩:Store),r3.primary,r3.state,r3.session,r3.peer,r3.peerPri,r3.req,r3.asking,r3.askId,r3.wanted,r3.minted,r3.draws,r3.mints⟩:Node)⟩))))))))))
def F (c:Case) (fuse:Int) (keep:Bool) (K:Bool->Prop):Prop:=FV q180.F q181.F q183.F q99.F q123.F q170.F q24.F q43.F q68.F c fuse keep K
noncomputable def en:Entry:=mkEntry A C fun x=>F x.1 x.2.1 x.2.2.1
theorem eqv (f0:q180.T) (f1:q181.T) (f2:q183.T) (f3:q99.T) (f4:q123.T) (f5:q170.T) (f6:q24.T) (f7:q43.T) (f8:q68.T) (c:Case) (fuse:Int) (keep:Bool) (K:Bool->Prop):apure E (tv f0 f1 f2 f3 f4 f5 f6 f7 f8) (ltV f0 f1 f2 f3 f4 f5 f6 f7 f8) 4 3 [enc (.st 16) c,enc (.int .u8) fuse,enc .bool keep] (ansK C K)=FV f0 f1 f2 f3 f4 f5 f6 f7 f8 c fuse keep K:=by kernel_rfl
theorem eq (x:Dens A) (K:Bool->Prop):apure E tab lt 4 3 (encA A x) (ansK C K)=F x.1 x.2.1 x.2.2.1 K:=eqv q180.F q181.F q183.F q99.F q123.F q170.F q24.F q43.F q68.F x.1 x.2.1 x.2.2.1 K
theorem l0v (f0:q180.T) (f1:q181.T) (f2:q183.T) (f3:q99.T) (f4:q123.T) (f5:q170.T) (f6:q24.T) (f7:q43.T) (f8:q68.T) (R:St->Prop) (Kx:Nat->St->Prop) (Kr:St->Prop) (x:L0):acode E (tv f0 f1 f2 f3 f4 f5 f6 f7 f8) (afun E (tv f0 f1 f2 f3 f4 f5 f6 f7 f8) 4) 143 (ltV f0 f1 f2 f3 f4 f5 f6 f7 f8) ((loopsIn E.P 3).getD 0 (0,.skip)).2 0 (fun s=>R (keepSt kp0 s)) (fun j s=>Kx j (keepSt kp0 s)) (fun s=>Kr (keepSt kR s)) (c0 x)=b0V f0 f1 f2 f3 f4 f5 f6 f7 f8 (fun x=>R (c0 x)) (fun x=>Kx 0 (c0 x)) (fun r=>Kr (cR r)) x:=by kernel_rfl
theorem l0_ok:LSound E tab (afun E tab 4) 143 lt 0 ((loopsIn E.P 3).getD 0 (0,.skip)).2 (mkLoop 0 kp0 kR p0 c0 cR (b0V q180.F q181.F q183.F q99.F q123.F q170.F q24.F q43.F q68.F)):=mkLoop_sound (by decide) (by decide) p0_ok (fun R Kx Kr x=>l0v q180.F q181.F q183.F q99.F q123.F q170.F q24.F q43.F q68.F R Kx Kr x)
theorem l2v (f0:q180.T) (f1:q181.T) (f2:q183.T) (f3:q99.T) (f4:q123.T) (f5:q170.T) (f6:q24.T) (f7:q43.T) (f8:q68.T) (R:St->Prop) (Kx:Nat->St->Prop) (Kr:St->Prop) (x:L2):acode E (tv f0 f1 f2 f3 f4 f5 f6 f7 f8) (afun E (tv f0 f1 f2 f3 f4 f5 f6 f7 f8) 4) 143 (ltV f0 f1 f2 f3 f4 f5 f6 f7 f8) ((loopsIn E.P 3).getD 1 (0,.skip)).2 2 (fun s=>R (keepSt kp2 s)) (fun j s=>Kx j (keepSt kp2 s)) (fun s=>Kr (keepSt kR s)) (c2 x)=b2V f0 f1 f2 f3 f4 f5 f6 f7 f8 (fun x=>R (c2 x)) (fun x=>Kx 2 (c2 x)) (fun r=>Kr (cR r)) x:=by kernel_rfl
theorem l2_ok:LSound E tab (afun E tab 4) 143 lt 2 ((loopsIn E.P 3).getD 1 (0,.skip)).2 (mkLoop 2 kp2 kR p2 c2 cR (b2V q180.F q181.F q183.F q99.F q123.F q170.F q24.F q43.F q68.F)):=mkLoop_sound (by decide) (by decide) p2_ok (fun R Kx Kr x=>l2v q180.F q181.F q183.F q99.F q123.F q170.F q24.F q43.F q68.F R Kx Kr x)
theorem loops:LoopsOk E tab lt 4 3:=loops_of (nt:=143) (ids:=[0,2]) (by kernel_rfl) (by kernel_rfl) (by
 intro k i hk l hl
 match k,hk with
 | 0,hk=>cases hk;cases hl;exact l0_ok
 | 1,hk=>cases hk;cases hl;exact l2_ok
 | _+2,hk=>exact absurd hk (by simp))
theorem det (c:Case) (fuse:Int) (keep:Bool):Det (F c fuse keep):=by
 unfold F FV
 repeat' with_reducible first|exact det_ret _|refine det_cond _ ?_ ?_|refine det_oget _ (fun _=>?_)|refine det_bind (q180.det) (fun _=>?_)|refine det_bind (q181.det _ _) (fun _=>?_)|refine det_bind (q183.det _) (fun _=>?_)|refine det_bind (q99.det _) (fun _=>?_)|refine det_bind (q123.det _ _) (fun _=>?_)|refine det_bind (q170.det _ _ _) (fun _=>?_)|refine det_bind (q24.det _ _) (fun _=>?_)|refine det_bind (q43.det _) (fun _=>?_)|refine det_bind (q68.det _ _) (fun _=>?_)|refine det_loop (fun _=>?_) (fun _=>?_) (fun _=>?_) _ | unfold b0V | unfold b2V
theorem edet (a:List AV):Det (en a):=mkEntry_det (fun x:Dens A=>det x.1 x.2.1 x.2.2.1) a
theorem ground:Ground E tab:=⟨num,mixed,(tab_cons q180.sound (tab_cons q181.sound (tab_cons q183.sound (tab_cons q99.sound (tab_cons q123.sound (tab_cons q170.sound (tab_cons q24.sound (tab_cons q43.sound (tab_cons q68.sound (tab_nil _)))))))))),clone,(dtab_cons q180.edet (dtab_cons q181.edet (dtab_cons q183.edet (dtab_cons q99.edet (dtab_cons q123.edet (dtab_cons q170.edet (dtab_cons q24.edet (dtab_cons q43.edet (dtab_cons q68.edet dtab_nil))))))))),stab⟩
theorem sound:EntrySound E 3 en:=mkSound ground loops (by kernel_rfl) (eq)
end q184
end Gm
