/- Printed by a program (gen.py): the functions' answers, and that they are so. -/
import Derived.Test.YtfjhdboapcckpaaGreatDoorGdT1
set_option linter.unusedVariables false
set_option maxRecDepth 100000
noncomputable section
namespace Gm
open Go Go.Proofs
namespace q48
abbrev A:List Ty:=[(.st 8),(.int .i64)]
abbrev C:=(cTwo .str (.int .i64))
abbrev T:Type:=Store->Int->((Str×Int)->Prop)->Prop
def tv (f0:q47.T):Tab:=[(91,mkEntry q47.A q47.C fun x=>f0 x.1 x.2.1)]
def tab:Tab:=tv q47.F
def FV (f0:q47.T) (s:Store) (i:Int) (K:(Str×Int)->Prop):Prop:=
 (f0 s.disk i fun r1=>(K (r1.1,r1.2)))
def F (s:Store) (i:Int) (K:(Str×Int)->Prop):Prop:=FV q47.F s i K
def en:Entry:=mkEntry A C fun x=>F x.1 x.2.1
theorem eqv (f0:q47.T) (s:Store) (i:Int) (K:(Str×Int)->Prop):apure E (tv f0) (fun _=>none) 4 57 [enc (.st 8) s,enc (.int .i64) i] (ansK C K)=FV f0 s i K:=by kernel_rfl
theorem loops:LoopsOk E tab (fun _=>none) 4 57:=lpn _ _ _ _
theorem det (s:Store) (i:Int):Det (F s i):=by
 unfold F FV
 repeat' with_reducible first|exact det_ret _|refine det_bind (q47.det _ _) (fun _=>?_)
theorem edet a:Det (en a):=mkD (fun x:Dens A=>det x.1 x.2.1) a
theorem ground:Ground E tab:=gnd (tbc q47.sound (tab_nil _)) (dtc q47.edet dtn)
theorem sound:EntrySound E 57 en:=mkSound ground loops (by kernel_rfl) (fun x K=>eqv q47.F x.1 x.2.1 K)
end q48
namespace q49
abbrev A:List Ty:=[(.st 13),(.int .i64),(.int .i64)]
abbrev C:=(cTwo (.st 13) (.slice (.st 11)))
abbrev T:Type:=Node->Int->Int->((Node×(List Outp))->Prop)->Prop
def tv (f0:q48.T):Tab:=[(57,mkEntry q48.A q48.C fun x=>f0 x.1 x.2.1)]
def tab:Tab:=tv q48.F
def FV (f0:q48.T) (n_0:Node) (id:Int) (block:Int) (K:(Node×(List Outp))->Prop):Prop:=
 (bif(!n_0.up)then(bif(decide (([(⟨2,n_0.id,id,7,([]:Str)⟩:Outp)]:List Outp).length * 48≤room))then(K (n_0,([(⟨2,n_0.id,id,7,([]:Str)⟩:Outp)]:List Outp)))else False)else(bif(!n_0.primary)then(bif(decide (([(⟨2,n_0.id,id,8,([]:Str)⟩:Outp)]:List Outp).length * 48≤room))then(K (n_0,([(⟨2,n_0.id,id,8,([]:Str)⟩:Outp)]:List Outp)))else False)else(f0 n_0.store block fun r1=>(bif(decide (([(⟨2,n_0.id,id,r1.2,r1.1⟩:Outp)]:List Outp).length * 48≤room))then(K (n_0,([(⟨2,n_0.id,id,r1.2,r1.1⟩:Outp)]:List Outp)))else False))))
def F (n_0:Node) (id:Int) (block:Int) (K:(Node×(List Outp))->Prop):Prop:=FV q48.F n_0 id block K
def en:Entry:=mkEntry A C fun x=>F x.1 x.2.1 x.2.2.1
theorem eqv (f0:q48.T) (n_0:Node) (id:Int) (block:Int) (K:(Node×(List Outp))->Prop):apure E (tv f0) (fun _=>none) 4 20 [enc (.st 13) n_0,enc (.int .i64) id,enc (.int .i64) block] (ansK C K)=FV f0 n_0 id block K:=by kernel_rfl
theorem loops:LoopsOk E tab (fun _=>none) 4 20:=lpn _ _ _ _
theorem det (n_0:Node) (id:Int) (block:Int):Det (F n_0 id block):=by
 unfold F FV
 repeat' with_reducible first|exact det_ret _|exact det_false|refine det_cond _ ?_ ?_|refine det_bind (q48.det _ _) (fun _=>?_)
theorem edet a:Det (en a):=mkD (fun x:Dens A=>det x.1 x.2.1 x.2.2.1) a
theorem ground:Ground E tab:=gnd (tbc q48.sound (tab_nil _)) (dtc q48.edet dtn)
theorem sound:EntrySound E 20 en:=mkSound ground loops (by kernel_rfl) (fun x K=>eqv q48.F x.1 x.2.1 x.2.2.1 K)
end q49
namespace q50
abbrev A:List Ty:=[(.int .i64)]
abbrev C:=(cTwo (.st 6) .bool)
abbrev T:Type:=Int->((Shape×Bool)->Prop)->Prop
def tab:Tab:=[]
def F (kind:Int) (K:(Shape×Bool)->Prop):Prop:=
 (bif(kind==1)then(K ((⟨true,false,false⟩:Shape),true))else(bif(kind==2)then(K ((⟨false,true,true⟩:Shape),true))else(bif(kind==6)then(K ((⟨false,true,true⟩:Shape),true))else(bif(kind==3)then(K ((⟨false,true,false⟩:Shape),true))else(bif(kind==4)then(K ((⟨false,true,false⟩:Shape),true))else(bif(kind==5)then(K ((⟨false,true,false⟩:Shape),true))else(bif(kind==7)then(K ((⟨false,true,false⟩:Shape),true))else(bif(kind==8)then(K ((⟨false,false,false⟩:Shape),true))else(bif(kind==9)then(K ((⟨false,false,false⟩:Shape),true))else(bif(kind==10)then(K ((⟨false,false,false⟩:Shape),true))else(bif(kind==11)then(K ((⟨false,false,false⟩:Shape),true))else(bif(kind==12)then(K ((⟨false,false,false⟩:Shape),true))else(bif(kind==13)then(K ((⟨false,false,false⟩:Shape),true))else(K ((⟨false,false,false⟩:Shape),false)))))))))))))))
def en:Entry:=mkEntry A C fun x=>F x.1
theorem eqv (kind:Int) (K:(Shape×Bool)->Prop):apure E tab (fun _=>none) 4 125 [enc (.int .i64) kind] (ansK C K)=F kind K:=by kernel_rfl
theorem loops:LoopsOk E tab (fun _=>none) 4 125:=lpn _ _ _ _
theorem det (kind:Int):Det (F kind):=by
 unfold F
 repeat' with_reducible first|exact det_ret _|refine det_cond _ ?_ ?_
theorem edet a:Det (en a):=mkD (fun x:Dens A=>det x.1) a
theorem ground:Ground E tab:=gnd (tab_nil _) dtn
theorem sound:EntrySound E 125 en:=mkSound ground loops (by kernel_rfl) (fun x K=>eqv  x.1 K)
end q50
namespace q51
abbrev A:List Ty:=[(.st 2)]
abbrev C:=(cTy .bool)
abbrev T:Type:=Vec->(Bool->Prop)->Prop
def tab:Tab:=[]
def F (v:Vec) (K:Bool->Prop):Prop:=
 (K (v.current != 0))
def en:Entry:=mkEntry A C fun x=>F x.1
theorem eqv (v:Vec) (K:Bool->Prop):apure E tab (fun _=>none) 4 218 [enc (.st 2) v] (ansK C K)=F v K:=by kernel_rfl
theorem loops:LoopsOk E tab (fun _=>none) 4 218:=lpn _ _ _ _
theorem det (v:Vec):Det (F v):=by
 unfold F
 repeat' with_reducible first|exact det_ret _
theorem edet a:Det (en a):=mkD (fun x:Dens A=>det x.1) a
theorem ground:Ground E tab:=gnd (tab_nil _) dtn
theorem sound:EntrySound E 218 en:=mkSound ground loops (by kernel_rfl) (fun x K=>eqv  x.1 K)
end q51
namespace q52
abbrev A:List Ty:=[(.int .i64)]
abbrev C:=(cTy .bool)
abbrev T:Type:=Int->(Bool->Prop)->Prop
def tab:Tab:=[]
def F (i:Int) (K:Bool->Prop):Prop:=
 (bif(decide (i≥0))then(K (decide (i < 32)))else(K false))
def en:Entry:=mkEntry A C fun x=>F x.1
theorem eqv (i:Int) (K:Bool->Prop):apure E tab (fun _=>none) 4 146 [enc (.int .i64) i] (ansK C K)=F i K:=by kernel_rfl
theorem loops:LoopsOk E tab (fun _=>none) 4 146:=lpn _ _ _ _
theorem det (i:Int):Det (F i):=by
 unfold F
 repeat' with_reducible first|exact det_ret _|refine det_cond _ ?_ ?_
theorem edet a:Det (en a):=mkD (fun x:Dens A=>det x.1) a
theorem ground:Ground E tab:=gnd (tab_nil _) dtn
theorem sound:EntrySound E 146 en:=mkSound ground loops (by kernel_rfl) (fun x K=>eqv  x.1 K)
end q52
namespace q53
abbrev A:List Ty:=[(.int .i64)]
abbrev C:=(cTy (.int .u32))
abbrev T:Type:=Int->(Int->Prop)->Prop
def tv (f0:q52.T):Tab:=[(146,mkEntry q52.A q52.C fun x=>f0 x.1)]
def tab:Tab:=tv q52.F
def FV (f0:q52.T) (blocks:Int) (K:Int->Prop):Prop:=
 (f0 (IntKind.i64.wrap (blocks - 1)) fun r1=>(bif(!r1)then(K 0)else(bif(decide (0≤blocks))then(K (IntKind.u32.wrap ((ishl .u32 1 blocks) - 1)))else False)))
def F (blocks:Int) (K:Int->Prop):Prop:=FV q52.F blocks K
def en:Entry:=mkEntry A C fun x=>F x.1
theorem eqv (f0:q52.T) (blocks:Int) (K:Int->Prop):apure E (tv f0) (fun _=>none) 4 187 [enc (.int .i64) blocks] (ansK C K)=FV f0 blocks K:=by kernel_rfl
theorem loops:LoopsOk E tab (fun _=>none) 4 187:=lpn _ _ _ _
theorem det (blocks:Int):Det (F blocks):=by
 unfold F FV
 repeat' with_reducible first|exact det_ret _|exact det_false|refine det_cond _ ?_ ?_|refine det_bind (q52.det _) (fun _=>?_)
theorem edet a:Det (en a):=mkD (fun x:Dens A=>det x.1) a
theorem ground:Ground E tab:=gnd (tbc q52.sound (tab_nil _)) (dtc q52.edet dtn)
theorem sound:EntrySound E 187 en:=mkSound ground loops (by kernel_rfl) (fun x K=>eqv q52.F x.1 K)
end q53
namespace q54
abbrev A:List Ty:=[(.int .u32),(.int .i64)]
abbrev C:=(cTy .bool)
abbrev T:Type:=Int->Int->(Bool->Prop)->Prop
def tv (f0:q52.T) (f1:q53.T):Tab:=[(146,mkEntry q52.A q52.C fun x=>f0 x.1),(187,mkEntry q53.A q53.C fun x=>f1 x.1)]
def tab:Tab:=tv q52.F q53.F
def FV (f0:q52.T) (f1:q53.T) (m:Int) (blocks:Int) (K:Bool->Prop):Prop:=
 (f0 (IntKind.i64.wrap (blocks - 1)) fun r1=>(bif r1 then(f1 blocks fun r2=>(K ((iandn .u32 m r2)==0)))else(K false)))
def F (m:Int) (blocks:Int) (K:Bool->Prop):Prop:=FV q52.F q53.F m blocks K
def en:Entry:=mkEntry A C fun x=>F x.1 x.2.1
theorem eqv (f0:q52.T) (f1:q53.T) (m:Int) (blocks:Int) (K:Bool->Prop):apure E (tv f0 f1) (fun _=>none) 4 148 [enc (.int .u32) m,enc (.int .i64) blocks] (ansK C K)=FV f0 f1 m blocks K:=by kernel_rfl
theorem loops:LoopsOk E tab (fun _=>none) 4 148:=lpn _ _ _ _
theorem det (m:Int) (blocks:Int):Det (F m blocks):=by
 unfold F FV
 repeat' with_reducible first|exact det_ret _|refine det_cond _ ?_ ?_|refine det_bind (q52.det _) (fun _=>?_)|refine det_bind (q53.det _) (fun _=>?_)
theorem edet a:Det (en a):=mkD (fun x:Dens A=>det x.1 x.2.1) a
theorem ground:Ground E tab:=gnd (tbc q52.sound (tbc q53.sound (tab_nil _))) (dtc q52.edet (dtc q53.edet dtn))
theorem sound:EntrySound E 148 en:=mkSound ground loops (by kernel_rfl) (fun x K=>eqv q52.F q53.F x.1 x.2.1 K)
end q54
namespace q55
abbrev A:List Ty:=[(.st 4)]
abbrev C:=(cTy .bool)
abbrev T:Type:=Hello->(Bool->Prop)->Prop
def tv (f0:q51.T) (f1:q54.T):Tab:=[(218,mkEntry q51.A q51.C fun x=>f0 x.1),(148,mkEntry q54.A q54.C fun x=>f1 x.1 x.2.1)]
def tab:Tab:=tv q51.F q54.F
def FV (f0:q51.T) (f1:q54.T) (h:Hello) (K:Bool->Prop):Prop:=
 (f0 h.vector fun r1=>(bif r1 then(f1 h.mask h.blocks fun r2=>(bif r2 then(bif(!h.pri)then(K true)else(bif(!h.was)then(K (!h.inc))else(K false)))else(K false)))else(K false)))
def F (h:Hello) (K:Bool->Prop):Prop:=FV q51.F q54.F h K
def en:Entry:=mkEntry A C fun x=>F x.1
theorem eqv (f0:q51.T) (f1:q54.T) (h:Hello) (K:Bool->Prop):apure E (tv f0 f1) (fun _=>none) 4 173 [enc (.st 4) h] (ansK C K)=FV f0 f1 h K:=by kernel_rfl
theorem loops:LoopsOk E tab (fun _=>none) 4 173:=lpn _ _ _ _
theorem det (h:Hello):Det (F h):=by
 unfold F FV
 repeat' with_reducible first|exact det_ret _|refine det_cond _ ?_ ?_|refine det_bind (q51.det _) (fun _=>?_)|refine det_bind (q54.det _ _) (fun _=>?_)
theorem edet a:Det (en a):=mkD (fun x:Dens A=>det x.1) a
theorem ground:Ground E tab:=gnd (tbc q51.sound (tbc q54.sound (tab_nil _))) (dtc q51.edet (dtc q54.edet dtn))
theorem sound:EntrySound E 173 en:=mkSound ground loops (by kernel_rfl) (fun x K=>eqv q51.F q54.F x.1 K)
end q55
namespace q56
abbrev A:List Ty:=[(.slice (.int .i64))]
abbrev C:=(cTy (.int .u32))
abbrev T:Type:=(List Int)->(Int->Prop)->Prop
def tv (f0:q52.T):Tab:=[(146,mkEntry q52.A q52.C fun x=>f0 x.1)]
def tab:Tab:=tv q52.F
structure R where
def cR (_:R):St:={ fr:=fun _=>.top,hs:=hs0 }
def kR:Keep:={ ks:=[],bs:=[],hn:=0 }
structure L0 where
 m:Int
 t5:(List Int)
 t6:Int
 t7:Int
def c0 (x:L0):St:={ fr:=lookL .top [(2,(.int .u32 x.m)),(5,(.sl .any (.int .i64) x.t5)),(6,(.int .i64 x.t6)),(7,(.int .i64 x.t7))],hs:={ hp:=lookL .dead [],hn:=0 } }
def kp0:Keep:={ ks:=[(2,none),(5,none),(6,none),(7,none)],bs:=[],hn:=0 }
def p0 (st:St) (K:L0->Prop):Prop:=gInt .u32 (st.fr 2) fun a1=>gSl .any (.int .i64) (st.fr 5) fun a2=>gInt .i64 (st.fr 6) fun a3=>gInt .i64 (st.fr 7) fun a4=>K ⟨a1,a2,a3,a4⟩
set_option maxHeartbeats 4000000 in
theorem p0_ok (st:St) (K:L0->Prop) (h:p0 st K):∃ x,keepSt kp0 st=c0 x∧K x:=by
 obtain ⟨a1,h0,h⟩:=gInt_elim h
 obtain ⟨a2,h1,h⟩:=gSl_elim h
 obtain ⟨a3,h2,h⟩:=gInt_elim h
 obtain ⟨a4,h3,h⟩:=gInt_elim h
 refine⟨_,?_,h⟩
 simp only [keepSt,kp0,List.map,h0,h1,h2,h3]
 rfl
def b0V (f0:q52.T) (rec kx:L0->Prop) (kr:R->Prop) (x:L0):Prop:=
 (bif(decide (x.t7 < x.t6))then(oget (getI x.t5 x.t7) fun v1=>(f0 v1 fun r2=>(bif r2 then(bif(decide (0≤v1))then(rec ⟨(ior .u32 x.m (ishl .u32 1 v1)),x.t5,x.t6,(IntKind.i64.wrap (x.t7+1))⟩)else False)else(rec ⟨x.m,x.t5,x.t6,(IntKind.i64.wrap (x.t7+1))⟩))))else(kx ⟨x.m,x.t5,x.t6,x.t7⟩))
def ltV (f0:q52.T):Nat->Option LSpec
 | 0=>some (mkLoop 0 kp0 kR p0 c0 cR (b0V f0))
 | _=>none
def lt:Nat->Option LSpec:=ltV q52.F
def FV (f0:q52.T) (l:(List Int)) (K:Int->Prop):Prop:=
 (∃ n,loopB (b0V f0) n (fun x3=>(K x3.m)) (fun _=>False) ⟨0,l,(l.length:Int),0⟩)
def F (l:(List Int)) (K:Int->Prop):Prop:=FV q52.F l K
def en:Entry:=mkEntry A C fun x=>F x.1
theorem eqv (f0:q52.T) (l:(List Int)) (K:Int->Prop):apure E (tv f0) (ltV f0) 4 105 [enc (.slice (.int .i64)) l] (ansK C K)=FV f0 l K:=by kernel_rfl
theorem l0v (f0:q52.T) (R:St->Prop) (Kx:Nat->St->Prop) (Kr:St->Prop) (x:L0):acode E (tv f0) (afun E (tv f0) 4) 19 (ltV f0) ((loopsIn E.P 105).getD 0 (0,.skip)).2 0 (fun s=>R (keepSt kp0 s)) (fun j s=>Kx j (keepSt kp0 s)) (fun s=>Kr (keepSt kR s)) (c0 x)=b0V f0 (fun x=>R (c0 x)) (fun x=>Kx 0 (c0 x)) (fun r=>Kr (cR r)) x:=by kernel_rfl
theorem l0_ok:LSound E tab (afun E tab 4) 19 lt 0 ((loopsIn E.P 105).getD 0 (0,.skip)).2 (mkLoop 0 kp0 kR p0 c0 cR (b0V q52.F)):=mkLoop_sound (by decide) (by decide) p0_ok (fun R Kx Kr x=>l0v q52.F R Kx Kr x)
theorem loops:LoopsOk E tab lt 4 105:=loops_of (nt:=19) (ids:=[0]) (by kernel_rfl) (by kernel_rfl) (by
 intro k i hk l hl
 match k,hk with
 | 0,hk=>cases hk;cases hl;exact l0_ok
 | _+1,hk=>exact absurd hk (by simp))
theorem det (l:(List Int)):Det (F l):=by
 unfold F FV
 repeat' with_reducible first|exact det_ret _|exact det_false|refine det_cond _ ?_ ?_|refine det_oget _ (fun _=>?_)|refine det_bind (q52.det _) (fun _=>?_)|refine det_loop (fun _=>?_) (fun _=>?_) (fun _=>?_) _ | unfold b0V
theorem edet a:Det (en a):=mkD (fun x:Dens A=>det x.1) a
theorem ground:Ground E tab:=gnd (tbc q52.sound (tab_nil _)) (dtc q52.edet dtn)
theorem sound:EntrySound E 105 en:=mkSound ground loops (by kernel_rfl) (fun x K=>eqv q52.F x.1 K)
end q56
namespace q57
abbrev A:List Ty:=[(.int .u32),(.slice (.int .i64))]
abbrev C:=(cTy (.int .u32))
abbrev T:Type:=Int->(List Int)->(Int->Prop)->Prop
def tv (f0:q56.T):Tab:=[(105,mkEntry q56.A q56.C fun x=>f0 x.1)]
def tab:Tab:=tv q56.F
def FV (f0:q56.T) (m:Int) (l:(List Int)) (K:Int->Prop):Prop:=
 (f0 l fun r1=>(K (ior .u32 m r1)))
def F (m:Int) (l:(List Int)) (K:Int->Prop):Prop:=FV q56.F m l K
def en:Entry:=mkEntry A C fun x=>F x.1 x.2.1
theorem eqv (f0:q56.T) (m:Int) (l:(List Int)) (K:Int->Prop):apure E (tv f0) (fun _=>none) 4 72 [enc (.int .u32) m,enc (.slice (.int .i64)) l] (ansK C K)=FV f0 m l K:=by kernel_rfl
theorem loops:LoopsOk E tab (fun _=>none) 4 72:=lpn _ _ _ _
theorem det (m:Int) (l:(List Int)):Det (F m l):=by
 unfold F FV
 repeat' with_reducible first|exact det_ret _|refine det_bind (q56.det _) (fun _=>?_)
theorem edet a:Det (en a):=mkD (fun x:Dens A=>det x.1 x.2.1) a
theorem ground:Ground E tab:=gnd (tbc q56.sound (tab_nil _)) (dtc q56.edet dtn)
theorem sound:EntrySound E 72 en:=mkSound ground loops (by kernel_rfl) (fun x K=>eqv q56.F x.1 x.2.1 K)
end q57
namespace q58
abbrev A:List Ty:=[(.st 5)]
abbrev C:=(cTy .bool)
abbrev T:Type:=Packet->(Bool->Prop)->Prop
def tv (f0:q50.T) (f1:q55.T) (f2:q57.T):Tab:=[(125,mkEntry q50.A q50.C fun x=>f0 x.1),(173,mkEntry q55.A q55.C fun x=>f1 x.1),(72,mkEntry q57.A q57.C fun x=>f2 x.1 x.2.1)]
def tab:Tab:=tv q50.F q55.F q57.F
def FV (f0:q50.T) (f1:q55.T) (f2:q57.T) (p:Packet) (K:Bool->Prop):Prop:=
 (f0 p.kind fun r1=>(bif(!r1.2)then(K false)else(f1 p.hello fun r2=>(bif(!(r1.1.hello==r2))then(K false)else(bif(!r1.1.hello)then(bif(!((p.hello.blocks==0)&&(((p.hello.vector.current==0)&&((p.hello.vector.bitmap==0)&&(((p.hello.vector.old0==0)&&((p.hello.vector.old1==0)&&true))&&true)))&&((p.hello.inc==false)&&((p.hello.was==false)&&((p.hello.dis==false)&&((p.hello.pri==false)&&((p.hello.mask==0)&&true))))))))then(K false)else(bif r1.1.block then(f2 0 ([p.block]:List Int) fun r3=>(bif(r3==0)then(K false)else(bif(!r1.1.block)then(bif(p.block != 0)then(K false)else(bif r1.1.data then(K ((p.data.length:Int)==8))else(K (p.data==([]:Str)))))else(bif r1.1.data then(K ((p.data.length:Int)==8))else(K (p.data==([]:Str)))))))else(bif(!r1.1.block)then(bif(p.block != 0)then(K false)else(bif r1.1.data then(K ((p.data.length:Int)==8))else(K (p.data==([]:Str)))))else(bif r1.1.data then(K ((p.data.length:Int)==8))else(K (p.data==([]:Str)))))))else(bif r1.1.block then(f2 0 ([p.block]:List Int) fun r4=>(bif(r4==0)then(K false)else(bif(!r1.1.block)then(bif(p.block != 0)then(K false)else(bif r1.1.data then(K ((p.data.length:Int)==8))else(K (p.data==([]:Str)))))else(bif r1.1.data then(K ((p.data.length:Int)==8))else(K (p.data==([]:Str)))))))else(bif(!r1.1.block)then(bif(p.block != 0)then(K false)else(bif r1.1.data then(K ((p.data.length:Int)==8))else(K (p.data==([]:Str)))))else(bif r1.1.data then(K ((p.data.length:Int)==8))else(K (p.data==([]:Str)))))))))))
def F (p:Packet) (K:Bool->Prop):Prop:=FV q50.F q55.F q57.F p K
def en:Entry:=mkEntry A C fun x=>F x.1
theorem eqv (f0:q50.T) (f1:q55.T) (f2:q57.T) (p:Packet) (K:Bool->Prop):apure E (tv f0 f1 f2) (fun _=>none) 4 124 [enc (.st 5) p] (ansK C K)=FV f0 f1 f2 p K:=by kernel_rfl
theorem loops:LoopsOk E tab (fun _=>none) 4 124:=lpn _ _ _ _
theorem det (p:Packet):Det (F p):=by
 unfold F FV
 repeat' with_reducible first|exact det_ret _|refine det_cond _ ?_ ?_|refine det_bind (q50.det _) (fun _=>?_)|refine det_bind (q55.det _) (fun _=>?_)|refine det_bind (q57.det _ _) (fun _=>?_)
theorem edet a:Det (en a):=mkD (fun x:Dens A=>det x.1) a
theorem ground:Ground E tab:=gnd (tbc q50.sound (tbc q55.sound (tbc q57.sound (tab_nil _)))) (dtc q50.edet (dtc q55.edet (dtc q57.edet dtn)))
theorem sound:EntrySound E 124 en:=mkSound ground loops (by kernel_rfl) (fun x K=>eqv q50.F q55.F q57.F x.1 K)
end q58
namespace q59
abbrev A:List Ty:=[(.int .u64),(.int .i64)]
abbrev C:=(cTy .str)
abbrev T:Type:=Int->Int->(Str->Prop)->Prop
def tab:Tab:=[]
structure R where
def cR (_:R):St:={ fr:=fun _=>.top,hs:=hs0 }
def kR:Keep:={ ks:=[],bs:=[],hn:=0 }
structure L0 where
 n0:Int
 size:Int
 b0:(List Int)
 t10:Int
 t11:Int
def c0 (x:L0):St:={ fr:=lookL .top [(0,(.int .u64 x.n0)),(1,(.int .i64 x.size)),(5,(.slr 0)),(10,(.int .i64 x.t10)),(11,(.int .i64 x.t11))],hs:={ hp:=lookL .dead [(0,(.row false (.int .u8) x.b0))],hn:=1 } }
def kp0:Keep:={ ks:=[(0,none),(1,none),(5,some 0),(10,none),(11,none)],bs:=[],hn:=1 }
def p0 (st:St) (K:L0->Prop):Prop:=gHomes kp0 st <| gInt .u64 (st.fr 0) fun a1=>gInt .i64 (st.fr 1) fun a2=>gSlr (st.fr 5) fun c3=>gRow false (.int .u8) (st.hs.hp c3) fun a4=>gInt .i64 (st.fr 10) fun a5=>gInt .i64 (st.fr 11) fun a6=>K ⟨a1,a2,a4,a5,a6⟩
set_option maxHeartbeats 4000000 in
theorem p0_ok (st:St) (K:L0->Prop) (h:p0 st K):∃ x,keepSt kp0 st=c0 x∧K x:=by
 obtain ⟨h0,h⟩:=gHomes_elim h
 obtain ⟨a1,h1,h⟩:=gInt_elim h
 obtain ⟨a2,h2,h⟩:=gInt_elim h
 obtain ⟨c3,h3,h⟩:=gSlr_elim h
 obtain ⟨a4,h4,h⟩:=gRow_elim h
 obtain ⟨a5,h5,h⟩:=gInt_elim h
 obtain ⟨a6,h6,h⟩:=gInt_elim h
 refine⟨_,?_,h⟩
 simp only [keepSt,h0]
 simp only [kp0,List.map,List.filterMap,homeOf,h1,h2,h3,h4,h5,h6,hmOf,List.append_nil,cond_true]
 rfl
def b0 (rec kx:L0->Prop) (kr:R->Prop) (x:L0):Prop:=
 (bif(decide (x.t11 < x.t10))then(bif(decide (0≤(IntKind.i64.wrap (8 * x.t11))))then(bif(decide (0≤(IntKind.i64.wrap ((IntKind.i64.wrap (x.size - 1)) - x.t11)))&&decide ((IntKind.i64.wrap ((IntKind.i64.wrap (x.size - 1)) - x.t11)) < (x.b0.length:Int)))then(rec ⟨x.n0,x.size,(x.b0.set (Int.toNat (IntKind.i64.wrap ((IntKind.i64.wrap (x.size - 1)) - x.t11))) (IntKind.u8.wrap (ishr .u64 x.n0 (IntKind.i64.wrap (8 * x.t11))))),x.t10,(IntKind.i64.wrap (x.t11+1))⟩)else False)else False)else(kx ⟨x.n0,x.size,x.b0,x.t10,x.t11⟩))
def lt:Nat->Option LSpec
 | 0=>some (mkLoop 0 kp0 kR p0 c0 cR b0)
 | _=>none
def F (n_0:Int) (size:Int) (K:Str->Prop):Prop:=
 (bif(size==size&&(decide (0≤size)&&decide (size * (1:Nat)≤(room:Int))))then(∃ n,loopB b0 n (fun x1=>(K (bytesOfInts x1.b0))) (fun _=>False) ⟨n_0,size,(List.replicate (Int.toNat size) (0:Int)),((List.replicate (Int.toNat size) (0:Int)).length:Int),0⟩)else False)
def en:Entry:=mkEntry A C fun x=>F x.1 x.2.1
theorem eqv (n_0:Int) (size:Int) (K:Str->Prop):apure E tab lt 4 154 [enc (.int .u64) n_0,enc (.int .i64) size] (ansK C K)=F n_0 size K:=by kernel_rfl
theorem l0v (R:St->Prop) (Kx:Nat->St->Prop) (Kr:St->Prop) (x:L0):acode E tab (afun E tab 4) 28 lt ((loopsIn E.P 154).getD 0 (0,.skip)).2 0 (fun s=>R (keepSt kp0 s)) (fun j s=>Kx j (keepSt kp0 s)) (fun s=>Kr (keepSt kR s)) (c0 x)=b0 (fun x=>R (c0 x)) (fun x=>Kx 0 (c0 x)) (fun r=>Kr (cR r)) x:=by kernel_rfl
theorem l0_ok:LSound E tab (afun E tab 4) 28 lt 0 ((loopsIn E.P 154).getD 0 (0,.skip)).2 (mkLoop 0 kp0 kR p0 c0 cR b0):=mkLoop_sound (by decide) (by decide) p0_ok (fun R Kx Kr x=>l0v  R Kx Kr x)
theorem loops:LoopsOk E tab lt 4 154:=loops_of (nt:=28) (ids:=[0]) (by kernel_rfl) (by kernel_rfl) (by
 intro k i hk l hl
 match k,hk with
 | 0,hk=>cases hk;cases hl;exact l0_ok
 | _+1,hk=>exact absurd hk (by simp))
theorem det (n_0:Int) (size:Int):Det (F n_0 size):=by
 unfold F
 repeat' with_reducible first|exact det_ret _|exact det_false|refine det_cond _ ?_ ?_|refine det_loop (fun _=>?_) (fun _=>?_) (fun _=>?_) _ | unfold b0
theorem edet a:Det (en a):=mkD (fun x:Dens A=>det x.1 x.2.1) a
theorem ground:Ground E tab:=gnd (tab_nil _) dtn
theorem sound:EntrySound E 154 en:=mkSound ground loops (by kernel_rfl) (fun x K=>eqv  x.1 x.2.1 K)
end q59
namespace q60
abbrev A:List Ty:=[(.int .u64)]
abbrev C:=(cTy .str)
abbrev T:Type:=Int->(Str->Prop)->Prop
def tv (f0:q59.T):Tab:=[(154,mkEntry q59.A q59.C fun x=>f0 x.1 x.2.1)]
def tab:Tab:=tv q59.F
def FV (f0:q59.T) (n_0:Int) (K:Str->Prop):Prop:=
 (f0 n_0 8 fun r1=>(K r1))
def F (n_0:Int) (K:Str->Prop):Prop:=FV q59.F n_0 K
def en:Entry:=mkEntry A C fun x=>F x.1
theorem eqv (f0:q59.T) (n_0:Int) (K:Str->Prop):apure E (tv f0) (fun _=>none) 4 126 [enc (.int .u64) n_0] (ansK C K)=FV f0 n_0 K:=by kernel_rfl
theorem loops:LoopsOk E tab (fun _=>none) 4 126:=lpn _ _ _ _
theorem det (n_0:Int):Det (F n_0):=by
 unfold F FV
 repeat' with_reducible first|exact det_ret _|refine det_bind (q59.det _ _) (fun _=>?_)
theorem edet a:Det (en a):=mkD (fun x:Dens A=>det x.1) a
theorem ground:Ground E tab:=gnd (tbc q59.sound (tab_nil _)) (dtc q59.edet dtn)
theorem sound:EntrySound E 126 en:=mkSound ground loops (by kernel_rfl) (fun x K=>eqv q59.F x.1 K)
end q60
namespace q61
abbrev A:List Ty:=[(.slice .bool)]
abbrev C:=(cTy (.int .u8))
abbrev T:Type:=(List Bool)->(Int->Prop)->Prop
def tab:Tab:=[]
structure R where
def cR (_:R):St:={ fr:=fun _=>.top,hs:=hs0 }
def kR:Keep:={ ks:=[],bs:=[],hn:=0 }
structure L0 where
 b0:Int
 t9:(List Bool)
 t10:Int
 t11:Int
def c0 (x:L0):St:={ fr:=lookL .top [(2,(.int .u8 x.b0)),(9,(.sl .any .bool x.t9)),(10,(.int .i64 x.t10)),(11,(.int .i64 x.t11))],hs:={ hp:=lookL .dead [],hn:=0 } }
def kp0:Keep:={ ks:=[(2,none),(9,none),(10,none),(11,none)],bs:=[],hn:=0 }
def p0 (st:St) (K:L0->Prop):Prop:=gInt .u8 (st.fr 2) fun a1=>gSl .any .bool (st.fr 9) fun a2=>gInt .i64 (st.fr 10) fun a3=>gInt .i64 (st.fr 11) fun a4=>K ⟨a1,a2,a3,a4⟩
set_option maxHeartbeats 4000000 in
theorem p0_ok (st:St) (K:L0->Prop) (h:p0 st K):∃ x,keepSt kp0 st=c0 x∧K x:=by
 obtain ⟨a1,h0,h⟩:=gInt_elim h
 obtain ⟨a2,h1,h⟩:=gSl_elim h
 obtain ⟨a3,h2,h⟩:=gInt_elim h
 obtain ⟨a4,h3,h⟩:=gInt_elim h
 refine⟨_,?_,h⟩
 simp only [keepSt,kp0,List.map,h0,h1,h2,h3]
 rfl
def b0 (rec kx:L0->Prop) (kr:R->Prop) (x:L0):Prop:=
 (bif(decide (x.t11 < x.t10))then(oget (getI x.t9 x.t11) fun v1=>(bif v1 then(bif(decide (0≤x.t11))then(rec ⟨(ior .u8 x.b0 (ishl .u8 1 x.t11)),x.t9,x.t10,(IntKind.i64.wrap (x.t11+1))⟩)else False)else(rec ⟨x.b0,x.t9,x.t10,(IntKind.i64.wrap (x.t11+1))⟩)))else(kx ⟨x.b0,x.t9,x.t10,x.t11⟩))
def lt:Nat->Option LSpec
 | 0=>some (mkLoop 0 kp0 kR p0 c0 cR b0)
 | _=>none
def F (l:(List Bool)) (K:Int->Prop):Prop:=
 (bif(decide (0≤(minI (l.length:Int) 8))&&decide ((minI (l.length:Int) 8)≤(l.length:Int)))then(∃ n,loopB b0 n (fun x2=>(K x2.b0)) (fun _=>False) ⟨0,(sub l 0 (Int.toNat (minI (l.length:Int) 8))),((sub l 0 (Int.toNat (minI (l.length:Int) 8))).length:Int),0⟩)else False)
def en:Entry:=mkEntry A C fun x=>F x.1
theorem eqv (l:(List Bool)) (K:Int->Prop):apure E tab lt 4 174 [enc (.slice .bool) l] (ansK C K)=F l K:=by kernel_rfl
theorem l0v (R:St->Prop) (Kx:Nat->St->Prop) (Kr:St->Prop) (x:L0):acode E tab (afun E tab 4) 23 lt ((loopsIn E.P 174).getD 0 (0,.skip)).2 0 (fun s=>R (keepSt kp0 s)) (fun j s=>Kx j (keepSt kp0 s)) (fun s=>Kr (keepSt kR s)) (c0 x)=b0 (fun x=>R (c0 x)) (fun x=>Kx 0 (c0 x)) (fun r=>Kr (cR r)) x:=by kernel_rfl
theorem l0_ok:LSound E tab (afun E tab 4) 23 lt 0 ((loopsIn E.P 174).getD 0 (0,.skip)).2 (mkLoop 0 kp0 kR p0 c0 cR b0):=mkLoop_sound (by decide) (by decide) p0_ok (fun R Kx Kr x=>l0v  R Kx Kr x)
theorem loops:LoopsOk E tab lt 4 174:=loops_of (nt:=23) (ids:=[0]) (by kernel_rfl) (by kernel_rfl) (by
 intro k i hk l hl
 match k,hk with
 | 0,hk=>cases hk;cases hl;exact l0_ok
 | _+1,hk=>exact absurd hk (by simp))
theorem det (l:(List Bool)):Det (F l):=by
 unfold F
 repeat' with_reducible first|exact det_ret _|exact det_false|refine det_cond _ ?_ ?_|refine det_oget _ (fun _=>?_)|refine det_loop (fun _=>?_) (fun _=>?_) (fun _=>?_) _ | unfold b0
theorem edet a:Det (en a):=mkD (fun x:Dens A=>det x.1) a
theorem ground:Ground E tab:=gnd (tab_nil _) dtn
theorem sound:EntrySound E 174 en:=mkSound ground loops (by kernel_rfl) (fun x K=>eqv  x.1 K)
end q61
namespace q62
abbrev A:List Ty:=[(.int .u32)]
abbrev C:=(cTy .str)
abbrev T:Type:=Int->(Str->Prop)->Prop
def tv (f0:q59.T):Tab:=[(154,mkEntry q59.A q59.C fun x=>f0 x.1 x.2.1)]
def tab:Tab:=tv q59.F
def FV (f0:q59.T) (n_0:Int) (K:Str->Prop):Prop:=
 (f0 (IntKind.u64.wrap n_0) 4 fun r1=>(K r1))
def F (n_0:Int) (K:Str->Prop):Prop:=FV q59.F n_0 K
def en:Entry:=mkEntry A C fun x=>F x.1
theorem eqv (f0:q59.T) (n_0:Int) (K:Str->Prop):apure E (tv f0) (fun _=>none) 4 110 [enc (.int .u32) n_0] (ansK C K)=FV f0 n_0 K:=by kernel_rfl
theorem loops:LoopsOk E tab (fun _=>none) 4 110:=lpn _ _ _ _
theorem det (n_0:Int):Det (F n_0):=by
 unfold F FV
 repeat' with_reducible first|exact det_ret _|refine det_bind (q59.det _ _) (fun _=>?_)
theorem edet a:Det (en a):=mkD (fun x:Dens A=>det x.1) a
theorem ground:Ground E tab:=gnd (tbc q59.sound (tab_nil _)) (dtc q59.edet dtn)
theorem sound:EntrySound E 110 en:=mkSound ground loops (by kernel_rfl) (fun x K=>eqv q59.F x.1 K)
end q62
namespace q63
abbrev A:List Ty:=[(.st 4)]
abbrev C:=(cTwo .str (.int .i64))
abbrev T:Type:=Hello->((Str×Int)->Prop)->Prop
def tv (f0:q55.T) (f1:q61.T) (f2:q60.T) (f3:q62.T):Tab:=[(173,mkEntry q55.A q55.C fun x=>f0 x.1),(174,mkEntry q61.A q61.C fun x=>f1 x.1),(126,mkEntry q60.A q60.C fun x=>f2 x.1),(110,mkEntry q62.A q62.C fun x=>f3 x.1)]
def tab:Tab:=tv q55.F q61.F q60.F q62.F
def FV (f0:q55.T) (f1:q61.T) (f2:q60.T) (f3:q62.T) (h:Hello) (K:(Str×Int)->Prop):Prop:=
 (f0 h fun r1=>(bif(!r1)then(K (([]:Str),1))else(f1 ([h.inc,h.was,h.dis,h.pri]:List Bool) fun r2=>(f2 h.vector.current fun r3=>(bif(fits ((bytesOfInts ([(IntKind.u8.wrap h.blocks),r2]:List Int)).length+r3.length))then(f2 h.vector.bitmap fun r4=>(bif(fits (((bytesOfInts ([(IntKind.u8.wrap h.blocks),r2]:List Int))++r3).length+r4.length))then(f2 h.vector.old0 fun r5=>(bif(fits ((((bytesOfInts ([(IntKind.u8.wrap h.blocks),r2]:List Int))++r3)++r4).length+r5.length))then(f2 h.vector.old1 fun r6=>(bif(fits (((((bytesOfInts ([(IntKind.u8.wrap h.blocks),r2]:List Int))++r3)++r4)++r5).length+r6.length))then(f3 h.mask fun r7=>(bif(fits ((((((bytesOfInts ([(IntKind.u8.wrap h.blocks),r2]:List Int))++r3)++r4)++r5)++r6).length+r7.length))then(K (((((((bytesOfInts ([(IntKind.u8.wrap h.blocks),r2]:List Int))++r3)++r4)++r5)++r6)++r7),0))else False))else False))else False))else False))else False)))))
def F (h:Hello) (K:(Str×Int)->Prop):Prop:=FV q55.F q61.F q60.F q62.F h K
def en:Entry:=mkEntry A C fun x=>F x.1
theorem eqv (f0:q55.T) (f1:q61.T) (f2:q60.T) (f3:q62.T) (h:Hello) (K:(Str×Int)->Prop):apure E (tv f0 f1 f2 f3) (fun _=>none) 4 127 [enc (.st 4) h] (ansK C K)=FV f0 f1 f2 f3 h K:=by kernel_rfl
theorem loops:LoopsOk E tab (fun _=>none) 4 127:=lpn _ _ _ _
theorem det (h:Hello):Det (F h):=by
 unfold F FV
 repeat' with_reducible first|exact det_ret _|exact det_false|refine det_cond _ ?_ ?_|refine det_bind (q55.det _) (fun _=>?_)|refine det_bind (q61.det _) (fun _=>?_)|refine det_bind (q60.det _) (fun _=>?_)|refine det_bind (q62.det _) (fun _=>?_)
theorem edet a:Det (en a):=mkD (fun x:Dens A=>det x.1) a
theorem ground:Ground E tab:=gnd (tbc q55.sound (tbc q61.sound (tbc q60.sound (tbc q62.sound (tab_nil _))))) (dtc q55.edet (dtc q61.edet (dtc q60.edet (dtc q62.edet dtn))))
theorem sound:EntrySound E 127 en:=mkSound ground loops (by kernel_rfl) (fun x K=>eqv q55.F q61.F q60.F q62.F x.1 K)
end q63
namespace q64
abbrev A:List Ty:=[.str]
abbrev C:=(cTy (.int .u32))
abbrev T:Type:=Str->(Int->Prop)->Prop
def tab:Tab:=[]
structure R where
def cR (_:R):St:={ fr:=fun _=>.top,hs:=hs0 }
def kR:Keep:={ ks:=[],bs:=[],hn:=0 }
structure L0 where
 s:Str
 n0:Int
 t6:Int
 t7:Int
def c0 (x:L0):St:={ fr:=lookL .top [(0,(.str x.s)),(3,(.int .u32 x.n0)),(6,(.int .i64 x.t6)),(7,(.int .i64 x.t7))],hs:={ hp:=lookL .dead [],hn:=0 } }
def kp0:Keep:={ ks:=[(0,none),(3,none),(6,none),(7,none)],bs:=[],hn:=0 }
def p0 (st:St) (K:L0->Prop):Prop:=gStr (st.fr 0) fun a1=>gInt .u32 (st.fr 3) fun a2=>gInt .i64 (st.fr 6) fun a3=>gInt .i64 (st.fr 7) fun a4=>K ⟨a1,a2,a3,a4⟩
set_option maxHeartbeats 4000000 in
theorem p0_ok (st:St) (K:L0->Prop) (h:p0 st K):∃ x,keepSt kp0 st=c0 x∧K x:=by
 obtain ⟨a1,h0,h⟩:=gStr_elim h
 obtain ⟨a2,h1,h⟩:=gInt_elim h
 obtain ⟨a3,h2,h⟩:=gInt_elim h
 obtain ⟨a4,h3,h⟩:=gInt_elim h
 refine⟨_,?_,h⟩
 simp only [keepSt,kp0,List.map,h0,h1,h2,h3]
 rfl
def b0 (rec kx:L0->Prop) (kr:R->Prop) (x:L0):Prop:=
 (bif(decide (x.t7 < x.t6))then(oget (getI x.s x.t7) fun v1=>(rec ⟨x.s,(IntKind.u32.wrap ((ixor .u32 x.n0 (IntKind.u32.wrap (v1.toNat:Int))) * 16777619)),x.t6,(IntKind.i64.wrap (x.t7+1))⟩))else(kx ⟨x.s,x.n0,x.t6,x.t7⟩))
def lt:Nat->Option LSpec
 | 0=>some (mkLoop 0 kp0 kR p0 c0 cR b0)
 | _=>none
def F (s:Str) (K:Int->Prop):Prop:=
 (∃ n,loopB b0 n (fun x2=>(K x2.n0)) (fun _=>False) ⟨s,2166136261,(s.length:Int),0⟩)
def en:Entry:=mkEntry A C fun x=>F x.1
theorem eqv (s:Str) (K:Int->Prop):apure E tab lt 4 153 [enc .str s] (ansK C K)=F s K:=by kernel_rfl
theorem l0v (R:St->Prop) (Kx:Nat->St->Prop) (Kr:St->Prop) (x:L0):acode E tab (afun E tab 4) 19 lt ((loopsIn E.P 153).getD 0 (0,.skip)).2 0 (fun s=>R (keepSt kp0 s)) (fun j s=>Kx j (keepSt kp0 s)) (fun s=>Kr (keepSt kR s)) (c0 x)=b0 (fun x=>R (c0 x)) (fun x=>Kx 0 (c0 x)) (fun r=>Kr (cR r)) x:=by kernel_rfl
theorem l0_ok:LSound E tab (afun E tab 4) 19 lt 0 ((loopsIn E.P 153).getD 0 (0,.skip)).2 (mkLoop 0 kp0 kR p0 c0 cR b0):=mkLoop_sound (by decide) (by decide) p0_ok (fun R Kx Kr x=>l0v  R Kx Kr x)
theorem loops:LoopsOk E tab lt 4 153:=loops_of (nt:=19) (ids:=[0]) (by kernel_rfl) (by kernel_rfl) (by
 intro k i hk l hl
 match k,hk with
 | 0,hk=>cases hk;cases hl;exact l0_ok
 | _+1,hk=>exact absurd hk (by simp))
theorem det (s:Str):Det (F s):=by
 unfold F
 repeat' with_reducible first|exact det_ret _|exact det_false|refine det_cond _ ?_ ?_|refine det_oget _ (fun _=>?_)|refine det_loop (fun _=>?_) (fun _=>?_) (fun _=>?_) _ | unfold b0
theorem edet a:Det (en a):=mkD (fun x:Dens A=>det x.1) a
theorem ground:Ground E tab:=gnd (tab_nil _) dtn
theorem sound:EntrySound E 153 en:=mkSound ground loops (by kernel_rfl) (fun x K=>eqv  x.1 K)
end q64
namespace q65
abbrev A:List Ty:=[.str]
abbrev C:=(cTy .str)
abbrev T:Type:=Str->(Str->Prop)->Prop
def tv (f0:q64.T) (f1:q62.T):Tab:=[(153,mkEntry q64.A q64.C fun x=>f0 x.1),(110,mkEntry q62.A q62.C fun x=>f1 x.1)]
def tab:Tab:=tv q64.F q62.F
def FV (f0:q64.T) (f1:q62.T) (s:Str) (K:Str->Prop):Prop:=
 (f0 s fun r1=>(f1 r1 fun r2=>(bif(fits (s.length+r2.length))then(K (s++r2))else False)))
def F (s:Str) (K:Str->Prop):Prop:=FV q64.F q62.F s K
def en:Entry:=mkEntry A C fun x=>F x.1
theorem eqv (f0:q64.T) (f1:q62.T) (s:Str) (K:Str->Prop):apure E (tv f0 f1) (fun _=>none) 4 109 [enc .str s] (ansK C K)=FV f0 f1 s K:=by kernel_rfl
theorem loops:LoopsOk E tab (fun _=>none) 4 109:=lpn _ _ _ _
theorem det (s:Str):Det (F s):=by
 unfold F FV
 repeat' with_reducible first|exact det_ret _|exact det_false|refine det_cond _ ?_ ?_|refine det_bind (q64.det _) (fun _=>?_)|refine det_bind (q62.det _) (fun _=>?_)
theorem edet a:Det (en a):=mkD (fun x:Dens A=>det x.1) a
theorem ground:Ground E tab:=gnd (tbc q64.sound (tbc q62.sound (tab_nil _))) (dtc q64.edet (dtc q62.edet dtn))
theorem sound:EntrySound E 109 en:=mkSound ground loops (by kernel_rfl) (fun x K=>eqv q64.F q62.F x.1 K)
end q65
namespace q66
abbrev A:List Ty:=[(.st 5)]
abbrev C:=(cTwo .str (.int .i64))
abbrev T:Type:=Packet->((Str×Int)->Prop)->Prop
def tv (f0:q58.T) (f1:q50.T) (f2:q60.T) (f3:q63.T) (f4:q65.T):Tab:=[(124,mkEntry q58.A q58.C fun x=>f0 x.1),(125,mkEntry q50.A q50.C fun x=>f1 x.1),(126,mkEntry q60.A q60.C fun x=>f2 x.1),(127,mkEntry q63.A q63.C fun x=>f3 x.1),(109,mkEntry q65.A q65.C fun x=>f4 x.1)]
def tab:Tab:=tv q58.F q50.F q60.F q63.F q65.F
def FV (f0:q58.T) (f1:q50.T) (f2:q60.T) (f3:q63.T) (f4:q65.T) (p:Packet) (K:(Str×Int)->Prop):Prop:=
 (f0 p fun r1=>(bif(!r1)then(K (([]:Str),1))else(f1 p.kind fun r2=>(f2 p.session fun r3=>(bif(fits ((bytesOfInts ([(IntKind.u8.wrap p.kind)]:List Int)).length+r3.length))then(bif r2.1.hello then(f3 p.hello fun r4=>(bif(fits (((bytesOfInts ([(IntKind.u8.wrap p.kind)]:List Int))++r3).length+r4.1.length))then(bif r2.1.block then(bif(fits ((((bytesOfInts ([(IntKind.u8.wrap p.kind)]:List Int))++r3)++r4.1).length+(bytesOfInts ([(IntKind.u8.wrap p.block)]:List Int)).length))then(bif(fits (((((bytesOfInts ([(IntKind.u8.wrap p.kind)]:List Int))++r3)++r4.1)++(bytesOfInts ([(IntKind.u8.wrap p.block)]:List Int))).length+p.data.length))then(f4 (((((bytesOfInts ([(IntKind.u8.wrap p.kind)]:List Int))++r3)++r4.1)++(bytesOfInts ([(IntKind.u8.wrap p.block)]:List Int)))++p.data) fun r5=>(K (r5,0)))else False)else False)else(bif(fits ((((bytesOfInts ([(IntKind.u8.wrap p.kind)]:List Int))++r3)++r4.1).length+p.data.length))then(f4 ((((bytesOfInts ([(IntKind.u8.wrap p.kind)]:List Int))++r3)++r4.1)++p.data) fun r6=>(K (r6,0)))else False))else False))else(bif r2.1.block then(bif(fits (((bytesOfInts ([(IntKind.u8.wrap p.kind)]:List Int))++r3).length+(bytesOfInts ([(IntKind.u8.wrap p.block)]:List Int)).length))then(bif(fits ((((bytesOfInts ([(IntKind.u8.wrap p.kind)]:List Int))++r3)++(bytesOfInts ([(IntKind.u8.wrap p.block)]:List Int))).length+p.data.length))then(f4 ((((bytesOfInts ([(IntKind.u8.wrap p.kind)]:List Int))++r3)++(bytesOfInts ([(IntKind.u8.wrap p.block)]:List Int)))++p.data) fun r7=>(K (r7,0)))else False)else False)else(bif(fits (((bytesOfInts ([(IntKind.u8.wrap p.kind)]:List Int))++r3).length+p.data.length))then(f4 (((bytesOfInts ([(IntKind.u8.wrap p.kind)]:List Int))++r3)++p.data) fun r8=>(K (r8,0)))else False)))else False)))))
def F (p:Packet) (K:(Str×Int)->Prop):Prop:=FV q58.F q50.F q60.F q63.F q65.F p K
def en:Entry:=mkEntry A C fun x=>F x.1
theorem eqv (f0:q58.T) (f1:q50.T) (f2:q60.T) (f3:q63.T) (f4:q65.T) (p:Packet) (K:(Str×Int)->Prop):apure E (tv f0 f1 f2 f3 f4) (fun _=>none) 4 88 [enc (.st 5) p] (ansK C K)=FV f0 f1 f2 f3 f4 p K:=by kernel_rfl
theorem loops:LoopsOk E tab (fun _=>none) 4 88:=lpn _ _ _ _
theorem det (p:Packet):Det (F p):=by
 unfold F FV
 repeat' with_reducible first|exact det_ret _|exact det_false|refine det_cond _ ?_ ?_|refine det_bind (q58.det _) (fun _=>?_)|refine det_bind (q50.det _) (fun _=>?_)|refine det_bind (q60.det _) (fun _=>?_)|refine det_bind (q63.det _) (fun _=>?_)|refine det_bind (q65.det _) (fun _=>?_)
theorem edet a:Det (en a):=mkD (fun x:Dens A=>det x.1) a
theorem ground:Ground E tab:=gnd (tbc q58.sound (tbc q50.sound (tbc q60.sound (tbc q63.sound (tbc q65.sound (tab_nil _)))))) (dtc q58.edet (dtc q50.edet (dtc q60.edet (dtc q63.edet (dtc q65.edet dtn)))))
theorem sound:EntrySound E 88 en:=mkSound ground loops (by kernel_rfl) (fun x K=>eqv q58.F q50.F q60.F q63.F q65.F x.1 K)
end q66
namespace q67
abbrev A:List Ty:=[(.st 3)]
abbrev C:=(cTy .bool)
abbrev T:Type:=Super->(Bool->Prop)->Prop
def tv (f0:q53.T) (f1:q51.T):Tab:=[(187,mkEntry q53.A q53.C fun x=>f0 x.1),(218,mkEntry q51.A q51.C fun x=>f1 x.1)]
def tab:Tab:=tv q53.F q51.F
def FV (f0:q53.T) (f1:q51.T) (s:Super) (K:Bool->Prop):Prop:=
 (f0 s.blocks fun r1=>(bif(r1 != 0)then(f1 s.vector fun r2=>(K r2))else(K false)))
def F (s:Super) (K:Bool->Prop):Prop:=FV q53.F q51.F s K
def en:Entry:=mkEntry A C fun x=>F x.1
theorem eqv (f0:q53.T) (f1:q51.T) (s:Super) (K:Bool->Prop):apure E (tv f0 f1) (fun _=>none) 4 181 [enc (.st 3) s] (ansK C K)=FV f0 f1 s K:=by kernel_rfl
theorem loops:LoopsOk E tab (fun _=>none) 4 181:=lpn _ _ _ _
theorem det (s:Super):Det (F s):=by
 unfold F FV
 repeat' with_reducible first|exact det_ret _|refine det_cond _ ?_ ?_|refine det_bind (q53.det _) (fun _=>?_)|refine det_bind (q51.det _) (fun _=>?_)
theorem edet a:Det (en a):=mkD (fun x:Dens A=>det x.1) a
theorem ground:Ground E tab:=gnd (tbc q53.sound (tbc q51.sound (tab_nil _))) (dtc q53.edet (dtc q51.edet dtn))
theorem sound:EntrySound E 181 en:=mkSound ground loops (by kernel_rfl) (fun x K=>eqv q53.F q51.F x.1 K)
end q67
namespace q68
abbrev A:List Ty:=[(.st 3)]
abbrev C:=(cTwo .str (.int .i64))
abbrev T:Type:=Super->((Str×Int)->Prop)->Prop
def tv (f0:q67.T) (f1:q61.T) (f2:q60.T) (f3:q65.T):Tab:=[(181,mkEntry q67.A q67.C fun x=>f0 x.1),(174,mkEntry q61.A q61.C fun x=>f1 x.1),(126,mkEntry q60.A q60.C fun x=>f2 x.1),(109,mkEntry q65.A q65.C fun x=>f3 x.1)]
def tab:Tab:=tv q67.F q61.F q60.F q65.F
structure R where
def cR (_:R):St:={ fr:=fun _=>.top,hs:=hs0 }
def kR:Keep:={ ks:=[],bs:=[],hn:=0 }
structure L0 where
 b0:Str
 t25:Int
 m0:Super
def c0 (x:L0):St:={ fr:=lookL .top [(4,(.str x.b0)),(24,(.agg [(.ptr 0 1),(.ptr 0 2),(.ptr 0 3),(.ptr 0 4)])),(25,(.int .i64 x.t25))],hs:={ hp:=lookL .dead [(0,(.cells (encS 3 x.m0)))],hn:=2 } }
def kp0:Keep:={ ks:=[(4,none),(24,none),(25,none)],bs:=[0],hn:=2,ts:=[(0,3)] }
def p0 (st:St) (K:L0->Prop):Prop:=gStr (st.fr 4) fun a1=>gAgg (st.fr 24) fun c2=>gCons c2 fun c3 c4=>gPtr 0 1 c3 <| gCons c4 fun c5 c6=>gPtr 0 2 c5 <| gCons c6 fun c7 c8=>gPtr 0 3 c7 <| gCons c8 fun c9 c10=>gPtr 0 4 c9 <| gNil c10 <| gInt .i64 (st.fr 25) fun a11=>gBlkS 3 (st.hs.hp 0) fun a12=>K ⟨a1,a11,a12⟩
set_option maxHeartbeats 4000000 in
theorem p0_ok (st:St) (K:L0->Prop) (h:p0 st K):∃ x,keepSt kp0 st=c0 x∧K x:=by
 obtain ⟨a1,h0,h⟩:=gStr_elim h
 obtain ⟨c2,h1,h⟩:=gAgg_elim h
 obtain ⟨c3,c4,h2,h⟩:=gCons_elim h
 obtain ⟨h3,h⟩:=gPtr_elim h
 obtain ⟨c5,c6,h4,h⟩:=gCons_elim h
 obtain ⟨h5,h⟩:=gPtr_elim h
 obtain ⟨c7,c8,h6,h⟩:=gCons_elim h
 obtain ⟨h7,h⟩:=gPtr_elim h
 obtain ⟨c9,c10,h8,h⟩:=gCons_elim h
 obtain ⟨h9,h⟩:=gPtr_elim h
 obtain ⟨h10,h⟩:=gNil_elim h
 obtain ⟨a11,h11,h⟩:=gInt_elim h
 obtain ⟨z12,a12,h12,y12,h⟩:=gBlkS_elim h
 have q12:∀ ok,keptB kp0 ok 0 (.cells z12)=.cells (encS 3 a12):=fun _=>y12
 simp only [kp0] at q12
 refine⟨_,?_,h⟩
 subst h2
 subst h3
 subst h4
 subst h5
 subst h6
 subst h7
 subst h8
 subst h9
 subst h10
 simp only [keepSt,kp0,List.map,h0,h1,h11,h12,q12]
 rfl
def b0V (f0:q67.T) (f1:q61.T) (f2:q60.T) (f3:q65.T) (rec kx:L0->Prop) (kr:R->Prop) (x:L0):Prop:=
 (bif(decide (x.t25 < 4))then(bif(x.t25==0)then(f2 x.m0.vector.current fun r6=>(bif(fits (x.b0.length+r6.length))then(rec ⟨(x.b0++r6),(IntKind.i64.wrap (x.t25+1)),x.m0⟩)else False))else(bif(x.t25==1)then(f2 x.m0.vector.bitmap fun r5=>(bif(fits (x.b0.length+r5.length))then(rec ⟨(x.b0++r5),(IntKind.i64.wrap (x.t25+1)),x.m0⟩)else False))else(bif(x.t25==2)then(f2 x.m0.vector.old0 fun r4=>(bif(fits (x.b0.length+r4.length))then(rec ⟨(x.b0++r4),(IntKind.i64.wrap (x.t25+1)),x.m0⟩)else False))else(bif(x.t25==3)then(f2 x.m0.vector.old1 fun r3=>(bif(fits (x.b0.length+r3.length))then(rec ⟨(x.b0++r3),(IntKind.i64.wrap (x.t25+1)),x.m0⟩)else False))else False))))else(kx ⟨x.b0,x.t25,x.m0⟩))
def ltV (f0:q67.T) (f1:q61.T) (f2:q60.T) (f3:q65.T):Nat->Option LSpec
 | 0=>some (mkLoop 0 kp0 kR p0 c0 cR (b0V f0 f1 f2 f3))
 | _=>none
def lt:Nat->Option LSpec:=ltV q67.F q61.F q60.F q65.F
def FV (f0:q67.T) (f1:q61.T) (f2:q60.T) (f3:q65.T) (s:Super) (K:(Str×Int)->Prop):Prop:=
 (f0 s fun r1=>(bif(!r1)then(K (([]:Str),1))else(f1 ([s.inc,s.pri,s.dis]:List Bool) fun r2=>(bif(fits (([71,77,1]:Str).length+(bytesOfInts ([(IntKind.u8.wrap s.blocks),r2]:List Int)).length))then(∃ n,loopB (b0V f0 f1 f2 f3) n (fun x7=>(f3 x7.b0 fun r9=>(K (r9,0)))) (fun _=>False) ⟨(([71,77,1]:Str)++(bytesOfInts ([(IntKind.u8.wrap s.blocks),r2]:List Int))),0,s⟩)else False))))
def F (s:Super) (K:(Str×Int)->Prop):Prop:=FV q67.F q61.F q60.F q65.F s K
def en:Entry:=mkEntry A C fun x=>F x.1
theorem eqv (f0:q67.T) (f1:q61.T) (f2:q60.T) (f3:q65.T) (s:Super) (K:(Str×Int)->Prop):apure E (tv f0 f1 f2 f3) (ltV f0 f1 f2 f3) 4 136 [enc (.st 3) s] (ansK C K)=FV f0 f1 f2 f3 s K:=by kernel_rfl
theorem l0v (f0:q67.T) (f1:q61.T) (f2:q60.T) (f3:q65.T) (R:St->Prop) (Kx:Nat->St->Prop) (Kr:St->Prop) (x:L0):acode E (tv f0 f1 f2 f3) (afun E (tv f0 f1 f2 f3) 4) 37 (ltV f0 f1 f2 f3) ((loopsIn E.P 136).getD 0 (0,.skip)).2 0 (fun s=>R (keepSt kp0 s)) (fun j s=>Kx j (keepSt kp0 s)) (fun s=>Kr (keepSt kR s)) (c0 x)=b0V f0 f1 f2 f3 (fun x=>R (c0 x)) (fun x=>Kx 0 (c0 x)) (fun r=>Kr (cR r)) x:=by kernel_rfl
theorem l0_ok:LSound E tab (afun E tab 4) 37 lt 0 ((loopsIn E.P 136).getD 0 (0,.skip)).2 (mkLoop 0 kp0 kR p0 c0 cR (b0V q67.F q61.F q60.F q65.F)):=mkLoop_sound (by decide) (by decide) p0_ok (fun R Kx Kr x=>l0v q67.F q61.F q60.F q65.F R Kx Kr x)
theorem loops:LoopsOk E tab lt 4 136:=loops_of (nt:=37) (ids:=[0]) (by kernel_rfl) (by kernel_rfl) (by
 intro k i hk l hl
 match k,hk with
 | 0,hk=>cases hk;cases hl;exact l0_ok
 | _+1,hk=>exact absurd hk (by simp))
theorem det (s:Super):Det (F s):=by
 unfold F FV
 repeat' with_reducible first|exact det_ret _|exact det_false|refine det_cond _ ?_ ?_|refine det_bind (q67.det _) (fun _=>?_)|refine det_bind (q61.det _) (fun _=>?_)|refine det_bind (q60.det _) (fun _=>?_)|refine det_bind (q65.det _) (fun _=>?_)|refine det_loop (fun _=>?_) (fun _=>?_) (fun _=>?_) _ | unfold b0V
theorem edet a:Det (en a):=mkD (fun x:Dens A=>det x.1) a
theorem ground:Ground E tab:=gnd (tbc q67.sound (tbc q61.sound (tbc q60.sound (tbc q65.sound (tab_nil _))))) (dtc q67.edet (dtc q61.edet (dtc q60.edet (dtc q65.edet dtn))))
theorem sound:EntrySound E 136 en:=mkSound ground loops (by kernel_rfl) (fun x K=>eqv q67.F q61.F q60.F q65.F x.1 K)
end q68
namespace q69
abbrev A:List Ty:=[(.st 1),(.st 3)]
abbrev C:=(cTy .bool)
abbrev T:Type:=Disk->Super->(Bool->Prop)->Prop
def tab:Tab:=[]
def F (d:Disk) (s:Super) (K:Bool->Prop):Prop:=
 (K (s.blocks==(IntKind.i64.wrap ((d.sure.length:Int) - 2))))
def en:Entry:=mkEntry A C fun x=>F x.1 x.2.1
theorem eqv (d:Disk) (s:Super) (K:Bool->Prop):apure E tab (fun _=>none) 4 113 [enc (.st 1) d,enc (.st 3) s] (ansK C K)=F d s K:=by kernel_rfl
theorem loops:LoopsOk E tab (fun _=>none) 4 113:=lpn _ _ _ _
theorem det (d:Disk) (s:Super):Det (F d s):=by
 unfold F
 repeat' with_reducible first|exact det_ret _
theorem edet a:Det (en a):=mkD (fun x:Dens A=>det x.1 x.2.1) a
theorem ground:Ground E tab:=gnd (tab_nil _) dtn
theorem sound:EntrySound E 113 en:=mkSound ground loops (by kernel_rfl) (fun x K=>eqv  x.1 x.2.1 K)
end q69
namespace q70
abbrev A:List Ty:=[(.st 1),(.int .i64)]
abbrev C:=(cTy .bool)
abbrev T:Type:=Disk->Int->(Bool->Prop)->Prop
def tab:Tab:=[]
def F (d:Disk) (i:Int) (K:Bool->Prop):Prop:=
 (bif(decide (i≥0))then(K (decide (i < (d.sure.length:Int))))else(K false))
def en:Entry:=mkEntry A C fun x=>F x.1 x.2.1
theorem eqv (d:Disk) (i:Int) (K:Bool->Prop):apure E tab (fun _=>none) 4 149 [enc (.st 1) d,enc (.int .i64) i] (ansK C K)=F d i K:=by kernel_rfl
theorem loops:LoopsOk E tab (fun _=>none) 4 149:=lpn _ _ _ _
theorem det (d:Disk) (i:Int):Det (F d i):=by
 unfold F
 repeat' with_reducible first|exact det_ret _|refine det_cond _ ?_ ?_
theorem edet a:Det (en a):=mkD (fun x:Dens A=>det x.1 x.2.1) a
theorem ground:Ground E tab:=gnd (tab_nil _) dtn
theorem sound:EntrySound E 149 en:=mkSound ground loops (by kernel_rfl) (fun x K=>eqv  x.1 x.2.1 K)
end q70
namespace q71
abbrev A:List Ty:=[.str]
abbrev C:=(cTy .bool)
abbrev T:Type:=Str->(Bool->Prop)->Prop
def tab:Tab:=[]
def F (s:Str) (K:Bool->Prop):Prop:=
 (K (decide ((s.length:Int) > 64)))
def en:Entry:=mkEntry A C fun x=>F x.1
theorem eqv (s:Str) (K:Bool->Prop):apure E tab (fun _=>none) 4 150 [enc .str s] (ansK C K)=F s K:=by kernel_rfl
theorem loops:LoopsOk E tab (fun _=>none) 4 150:=lpn _ _ _ _
theorem det (s:Str):Det (F s):=by
 unfold F
 repeat' with_reducible first|exact det_ret _
theorem edet a:Det (en a):=mkD (fun x:Dens A=>det x.1) a
theorem ground:Ground E tab:=gnd (tab_nil _) dtn
theorem sound:EntrySound E 150 en:=mkSound ground loops (by kernel_rfl) (fun x K=>eqv  x.1 K)
end q71
namespace q72
abbrev A:List Ty:=[(.st 1)]
abbrev C:=(cTy (.st 1))
abbrev T:Type:=Disk->(Disk->Prop)->Prop
def tab:Tab:=[]
def F (d:Disk) (K:Disk->Prop):Prop:=
 (K (⟨d.sure,d.cache,0,true⟩:Disk))
def en:Entry:=mkEntry A C fun x=>F x.1
theorem eqv (d:Disk) (K:Disk->Prop):apure E tab (fun _=>none) 4 63 [enc (.st 1) d] (ansK C K)=F d K:=by kernel_rfl
theorem loops:LoopsOk E tab (fun _=>none) 4 63:=lpn _ _ _ _
theorem det (d:Disk):Det (F d):=by
 unfold F
 repeat' with_reducible first|exact det_ret _
theorem edet a:Det (en a):=mkD (fun x:Dens A=>det x.1) a
theorem ground:Ground E tab:=gnd (tab_nil _) dtn
theorem sound:EntrySound E 63 en:=mkSound ground loops (by kernel_rfl) (fun x K=>eqv  x.1 K)
end q72
namespace q73
abbrev A:List Ty:=[(.st 1),(.int .i64),.str]
abbrev C:=(cTwo (.st 1) (.int .i64))
abbrev T:Type:=Disk->Int->Str->((Disk×Int)->Prop)->Prop
def tv (f0:q70.T) (f1:q71.T) (f2:q72.T):Tab:=[(149,mkEntry q70.A q70.C fun x=>f0 x.1 x.2.1),(150,mkEntry q71.A q71.C fun x=>f1 x.1),(63,mkEntry q72.A q72.C fun x=>f2 x.1)]
def tab:Tab:=tv q70.F q71.F q72.F
def FV (f0:q70.T) (f1:q71.T) (f2:q72.T) (d:Disk) (i:Int) (data:Str) (K:(Disk×Int)->Prop):Prop:=
 (bif d.dead then(K (d,6))else(f0 d i fun r1=>(bif(!r1)then(K (d,4))else(f1 data fun r2=>(bif r2 then(K (d,5))else(bif(d.fuse==0)then(bif(decide (d.cache.length * 24≤room))then(bif(decide (0≤(d.cache.length:Int))&&decide ((d.cache.length:Int)≤(d.cache.length:Int))&&(d.cache.length:Int)==(d.cache.length:Int))then(bif(decide (((sub d.cache 0 (Int.toNat (d.cache.length:Int))).length+([(⟨i,data⟩:Write)]:List Write).length) * 24≤room))then(K ((⟨d.sure,((sub d.cache 0 (Int.toNat (d.cache.length:Int)))++([(⟨i,data⟩:Write)]:List Write)),d.fuse,d.dead⟩:Disk),0))else False)else False)else False)else(bif(d.fuse==1)then(f2 d fun r3=>(K (r3,6)))else(bif(decide (d.cache.length * 24≤room))then(bif(decide (0≤(d.cache.length:Int))&&decide ((d.cache.length:Int)≤(d.cache.length:Int))&&(d.cache.length:Int)==(d.cache.length:Int))then(bif(decide (((sub d.cache 0 (Int.toNat (d.cache.length:Int))).length+([(⟨i,data⟩:Write)]:List Write).length) * 24≤room))then(K ((⟨d.sure,((sub d.cache 0 (Int.toNat (d.cache.length:Int)))++([(⟨i,data⟩:Write)]:List Write)),(IntKind.i64.wrap (d.fuse - 1)),d.dead⟩:Disk),0))else False)else False)else False))))))))
def F (d:Disk) (i:Int) (data:Str) (K:(Disk×Int)->Prop):Prop:=FV q70.F q71.F q72.F d i data K
def en:Entry:=mkEntry A C fun x=>F x.1 x.2.1 x.2.2.1
theorem eqv (f0:q70.T) (f1:q71.T) (f2:q72.T) (d:Disk) (i:Int) (data:Str) (K:(Disk×Int)->Prop):apure E (tv f0 f1 f2) (fun _=>none) 4 108 [enc (.st 1) d,enc (.int .i64) i,enc .str data] (ansK C K)=FV f0 f1 f2 d i data K:=by kernel_rfl
theorem loops:LoopsOk E tab (fun _=>none) 4 108:=lpn _ _ _ _
theorem det (d:Disk) (i:Int) (data:Str):Det (F d i data):=by
 unfold F FV
 repeat' with_reducible first|exact det_ret _|exact det_false|refine det_cond _ ?_ ?_|refine det_bind (q70.det _ _) (fun _=>?_)|refine det_bind (q71.det _) (fun _=>?_)|refine det_bind (q72.det _) (fun _=>?_)
theorem edet a:Det (en a):=mkD (fun x:Dens A=>det x.1 x.2.1 x.2.2.1) a
theorem ground:Ground E tab:=gnd (tbc q70.sound (tbc q71.sound (tbc q72.sound (tab_nil _)))) (dtc q70.edet (dtc q71.edet (dtc q72.edet dtn)))
theorem sound:EntrySound E 108 en:=mkSound ground loops (by kernel_rfl) (fun x K=>eqv q70.F q71.F q72.F x.1 x.2.1 x.2.2.1 K)
end q73
namespace q74
abbrev A:List Ty:=[(.slice .str),(.slice (.st 0))]
abbrev C:=(cTy (.slice .str))
abbrev T:Type:=(List Str)->(List Write)->((List Str)->Prop)->Prop
def tab:Tab:=[]
structure R where
def cR (_:R):St:={ fr:=fun _=>.top,hs:=hs0 }
def kR:Keep:={ ks:=[],bs:=[],hn:=0 }
structure L0 where
 sure:(List Str)
 t9:(List Write)
 t10:Int
 t11:Int
def c0 (x:L0):St:={ fr:=lookL .top [(0,(.slr 1)),(9,(.sl .any (.st 0) x.t9)),(10,(.int .i64 x.t10)),(11,(.int .i64 x.t11))],hs:={ hp:=lookL .dead [(1,(.row false .str x.sure))],hn:=2 } }
def kp0:Keep:={ ks:=[(0,some 1),(9,none),(10,none),(11,none)],bs:=[],hn:=2 }
def p0 (st:St) (K:L0->Prop):Prop:=gHomes kp0 st <| gSlr (st.fr 0) fun c1=>gRow false .str (st.hs.hp c1) fun a2=>gSl .any (.st 0) (st.fr 9) fun a3=>gInt .i64 (st.fr 10) fun a4=>gInt .i64 (st.fr 11) fun a5=>K ⟨a2,a3,a4,a5⟩
set_option maxHeartbeats 4000000 in
theorem p0_ok (st:St) (K:L0->Prop) (h:p0 st K):∃ x,keepSt kp0 st=c0 x∧K x:=by
 obtain ⟨h0,h⟩:=gHomes_elim h
 obtain ⟨c1,h1,h⟩:=gSlr_elim h
 obtain ⟨a2,h2,h⟩:=gRow_elim h
 obtain ⟨a3,h3,h⟩:=gSl_elim h
 obtain ⟨a4,h4,h⟩:=gInt_elim h
 obtain ⟨a5,h5,h⟩:=gInt_elim h
 refine⟨_,?_,h⟩
 simp only [keepSt,h0]
 simp only [kp0,List.map,List.filterMap,homeOf,h1,h2,h3,h4,h5,hmOf,List.append_nil,cond_true]
 rfl
def b0 (rec kx:L0->Prop) (kr:R->Prop) (x:L0):Prop:=
 (bif(decide (x.t11 < x.t10))then(oget (getI x.t9 x.t11) fun v1=>(bif(decide (0≤v1.sector)&&decide (v1.sector < (x.sure.length:Int)))then(rec ⟨(x.sure.set (Int.toNat v1.sector) v1.data),x.t9,x.t10,(IntKind.i64.wrap (x.t11+1))⟩)else False))else(kx ⟨x.sure,x.t9,x.t10,x.t11⟩))
def lt:Nat->Option LSpec
 | 0=>some (mkLoop 0 kp0 kR p0 c0 cR b0)
 | _=>none
def F (sure:(List Str)) (writes:(List Write)) (K:(List Str)->Prop):Prop:=
 (bif(decide (sure.length * 16≤room))then(∃ n,loopB b0 n (fun x2=>(K x2.sure)) (fun _=>False) ⟨sure,writes,(writes.length:Int),0⟩)else False)
def en:Entry:=mkEntry A C fun x=>F x.1 x.2.1
theorem eqv (sure:(List Str)) (writes:(List Write)) (K:(List Str)->Prop):apure E tab lt 4 94 [enc (.slice .str) sure,enc (.slice (.st 0)) writes] (ansK C K)=F sure writes K:=by kernel_rfl
theorem l0v (R:St->Prop) (Kx:Nat->St->Prop) (Kr:St->Prop) (x:L0):acode E tab (afun E tab 4) 23 lt ((loopsIn E.P 94).getD 0 (0,.skip)).2 0 (fun s=>R (keepSt kp0 s)) (fun j s=>Kx j (keepSt kp0 s)) (fun s=>Kr (keepSt kR s)) (c0 x)=b0 (fun x=>R (c0 x)) (fun x=>Kx 0 (c0 x)) (fun r=>Kr (cR r)) x:=by kernel_rfl
theorem l0_ok:LSound E tab (afun E tab 4) 23 lt 0 ((loopsIn E.P 94).getD 0 (0,.skip)).2 (mkLoop 0 kp0 kR p0 c0 cR b0):=mkLoop_sound (by decide) (by decide) p0_ok (fun R Kx Kr x=>l0v  R Kx Kr x)
theorem loops:LoopsOk E tab lt 4 94:=loops_of (nt:=23) (ids:=[0]) (by kernel_rfl) (by kernel_rfl) (by
 intro k i hk l hl
 match k,hk with
 | 0,hk=>cases hk;cases hl;exact l0_ok
 | _+1,hk=>exact absurd hk (by simp))
theorem det (sure:(List Str)) (writes:(List Write)):Det (F sure writes):=by
 unfold F
 repeat' with_reducible first|exact det_ret _|exact det_false|refine det_cond _ ?_ ?_|refine det_oget _ (fun _=>?_)|refine det_loop (fun _=>?_) (fun _=>?_) (fun _=>?_) _ | unfold b0
theorem edet a:Det (en a):=mkD (fun x:Dens A=>det x.1 x.2.1) a
theorem ground:Ground E tab:=gnd (tab_nil _) dtn
theorem sound:EntrySound E 94 en:=mkSound ground loops (by kernel_rfl) (fun x K=>eqv  x.1 x.2.1 K)
end q74
namespace q75
abbrev A:List Ty:=[(.st 1)]
abbrev C:=(cTwo (.st 1) (.int .i64))
abbrev T:Type:=Disk->((Disk×Int)->Prop)->Prop
def tv (f0:q74.T) (f1:q72.T):Tab:=[(94,mkEntry q74.A q74.C fun x=>f0 x.1 x.2.1),(63,mkEntry q72.A q72.C fun x=>f1 x.1)]
def tab:Tab:=tv q74.F q72.F
def FV (f0:q74.T) (f1:q72.T) (d:Disk) (K:(Disk×Int)->Prop):Prop:=
 (bif d.dead then(K (d,6))else(bif(d.fuse==0)then(f0 d.sure d.cache fun r1=>(K ((⟨r1,([]:List Write),d.fuse,d.dead⟩:Disk),0)))else(bif(d.fuse==1)then(f1 d fun r2=>(K (r2,6)))else(f0 d.sure d.cache fun r3=>(K ((⟨r3,([]:List Write),(IntKind.i64.wrap (d.fuse - 1)),d.dead⟩:Disk),0))))))
def F (d:Disk) (K:(Disk×Int)->Prop):Prop:=FV q74.F q72.F d K
def en:Entry:=mkEntry A C fun x=>F x.1
theorem eqv (f0:q74.T) (f1:q72.T) (d:Disk) (K:(Disk×Int)->Prop):apure E (tv f0 f1) (fun _=>none) 4 106 [enc (.st 1) d] (ansK C K)=FV f0 f1 d K:=by kernel_rfl
theorem loops:LoopsOk E tab (fun _=>none) 4 106:=lpn _ _ _ _
theorem det (d:Disk):Det (F d):=by
 unfold F FV
 repeat' with_reducible first|exact det_ret _|refine det_cond _ ?_ ?_|refine det_bind (q74.det _ _) (fun _=>?_)|refine det_bind (q72.det _) (fun _=>?_)
theorem edet a:Det (en a):=mkD (fun x:Dens A=>det x.1) a
theorem ground:Ground E tab:=gnd (tbc q74.sound (tbc q72.sound (tab_nil _))) (dtc q74.edet (dtc q72.edet dtn))
theorem sound:EntrySound E 106 en:=mkSound ground loops (by kernel_rfl) (fun x K=>eqv q74.F q72.F x.1 K)
end q75
namespace q76
abbrev A:List Ty:=[(.st 1),(.st 3)]
abbrev C:=(cTwo (.st 1) (.int .i64))
abbrev T:Type:=Disk->Super->((Disk×Int)->Prop)->Prop
def tv (f0:q68.T) (f1:q69.T) (f2:q73.T) (f3:q75.T):Tab:=[(136,mkEntry q68.A q68.C fun x=>f0 x.1),(113,mkEntry q69.A q69.C fun x=>f1 x.1 x.2.1),(108,mkEntry q73.A q73.C fun x=>f2 x.1 x.2.1 x.2.2.1),(106,mkEntry q75.A q75.C fun x=>f3 x.1)]
def tab:Tab:=tv q68.F q69.F q73.F q75.F
def FV (f0:q68.T) (f1:q69.T) (f2:q73.T) (f3:q75.T) (d:Disk) (s:Super) (K:(Disk×Int)->Prop):Prop:=
 (f0 s fun r1=>(bif(r1.2 != 0)then(K (d,1))else(f1 d s fun r2=>(bif(!r2)then(K (d,1))else(f2 d 0 r1.1 fun r3=>(bif(r3.2 != 0)then(K (r3.1,r3.2))else(f3 r3.1 fun r4=>(K (r4.1,r4.2)))))))))
def F (d:Disk) (s:Super) (K:(Disk×Int)->Prop):Prop:=FV q68.F q69.F q73.F q75.F d s K
def en:Entry:=mkEntry A C fun x=>F x.1 x.2.1
theorem eqv (f0:q68.T) (f1:q69.T) (f2:q73.T) (f3:q75.T) (d:Disk) (s:Super) (K:(Disk×Int)->Prop):apure E (tv f0 f1 f2 f3) (fun _=>none) 4 96 [enc (.st 1) d,enc (.st 3) s] (ansK C K)=FV f0 f1 f2 f3 d s K:=by kernel_rfl
theorem loops:LoopsOk E tab (fun _=>none) 4 96:=lpn _ _ _ _
theorem det (d:Disk) (s:Super):Det (F d s):=by
 unfold F FV
 repeat' with_reducible first|exact det_ret _|refine det_cond _ ?_ ?_|refine det_bind (q68.det _) (fun _=>?_)|refine det_bind (q69.det _ _) (fun _=>?_)|refine det_bind (q73.det _ _ _) (fun _=>?_)|refine det_bind (q75.det _) (fun _=>?_)
theorem edet a:Det (en a):=mkD (fun x:Dens A=>det x.1 x.2.1) a
theorem ground:Ground E tab:=gnd (tbc q68.sound (tbc q69.sound (tbc q73.sound (tbc q75.sound (tab_nil _))))) (dtc q68.edet (dtc q69.edet (dtc q73.edet (dtc q75.edet dtn))))
theorem sound:EntrySound E 96 en:=mkSound ground loops (by kernel_rfl) (fun x K=>eqv q68.F q69.F q73.F q75.F x.1 x.2.1 K)
end q76
namespace q77
abbrev A:List Ty:=[(.st 8),(.st 3)]
abbrev C:=(cTwo (.st 8) (.int .i64))
abbrev T:Type:=Store->Super->((Store×Int)->Prop)->Prop
def tv (f0:q76.T):Tab:=[(96,mkEntry q76.A q76.C fun x=>f0 x.1 x.2.1)]
def tab:Tab:=tv q76.F
def FV (f0:q76.T) (s:Store) (b_1:Super) (K:(Store×Int)->Prop):Prop:=
 (bif((b_1.blocks==s.sup.blocks)&&(((b_1.vector.current==s.sup.vector.current)&&((b_1.vector.bitmap==s.sup.vector.bitmap)&&(((b_1.vector.old0==s.sup.vector.old0)&&((b_1.vector.old1==s.sup.vector.old1)&&true))&&true)))&&((b_1.inc==s.sup.inc)&&((b_1.pri==s.sup.pri)&&((b_1.dis==s.sup.dis)&&true)))))then(K (s,0))else(f0 s.disk b_1 fun r1=>(bif(r1.2==0)then(K ((⟨r1.1,b_1,s.mask⟩:Store),r1.2))else(K ((⟨r1.1,s.sup,s.mask⟩:Store),r1.2)))))
def F (s:Store) (b_1:Super) (K:(Store×Int)->Prop):Prop:=FV q76.F s b_1 K
def en:Entry:=mkEntry A C fun x=>F x.1 x.2.1
theorem eqv (f0:q76.T) (s:Store) (b_1:Super) (K:(Store×Int)->Prop):apure E (tv f0) (fun _=>none) 4 66 [enc (.st 8) s,enc (.st 3) b_1] (ansK C K)=FV f0 s b_1 K:=by kernel_rfl
theorem loops:LoopsOk E tab (fun _=>none) 4 66:=lpn _ _ _ _
theorem det (s:Store) (b_1:Super):Det (F s b_1):=by
 unfold F FV
 repeat' with_reducible first|exact det_ret _|refine det_cond _ ?_ ?_|refine det_bind (q76.det _ _) (fun _=>?_)
theorem edet a:Det (en a):=mkD (fun x:Dens A=>det x.1 x.2.1) a
theorem ground:Ground E tab:=gnd (tbc q76.sound (tab_nil _)) (dtc q76.edet dtn)
theorem sound:EntrySound E 66 en:=mkSound ground loops (by kernel_rfl) (fun x K=>eqv q76.F x.1 x.2.1 K)
end q77
namespace q78
abbrev A:List Ty:=[(.st 13)]
abbrev C:=(cTy (.st 13))
abbrev T:Type:=Node->(Node->Prop)->Prop
def tv (f0:q72.T):Tab:=[(63,mkEntry q72.A q72.C fun x=>f0 x.1)]
def tab:Tab:=tv q72.F
def FV (f0:q72.T) (n_0:Node) (K:Node->Prop):Prop:=
 (f0 n_0.store.disk fun r1=>(K (⟨n_0.id,false,(⟨r1,(⟨0,(⟨0,0,0,0⟩:Vec),false,false,false⟩:Super),0⟩:Store),false,0,0,(⟨0,(⟨0,0,0,0⟩:Vec),false,false,false,false,0⟩:Hello),false,(⟨false,0,0,([]:Str)⟩:Req),false,0,0,false,n_0.draws,n_0.mints⟩:Node)))
def F (n_0:Node) (K:Node->Prop):Prop:=FV q72.F n_0 K
def en:Entry:=mkEntry A C fun x=>F x.1
theorem eqv (f0:q72.T) (n_0:Node) (K:Node->Prop):apure E (tv f0) (fun _=>none) 4 23 [enc (.st 13) n_0] (ansK C K)=FV f0 n_0 K:=by kernel_rfl
theorem loops:LoopsOk E tab (fun _=>none) 4 23:=lpn _ _ _ _
theorem det (n_0:Node):Det (F n_0):=by
 unfold F FV
 repeat' with_reducible first|exact det_ret _|refine det_bind (q72.det _) (fun _=>?_)
theorem edet a:Det (en a):=mkD (fun x:Dens A=>det x.1) a
theorem ground:Ground E tab:=gnd (tbc q72.sound (tab_nil _)) (dtc q72.edet dtn)
theorem sound:EntrySound E 23 en:=mkSound ground loops (by kernel_rfl) (fun x K=>eqv q72.F x.1 K)
end q78
namespace q79
abbrev A:List Ty:=[(.st 13),(.int .i64)]
abbrev C:=(cTwo (.st 13) (.slice (.st 11)))
abbrev T:Type:=Node->Int->((Node×(List Outp))->Prop)->Prop
def tv (f0:q66.T) (f1:q77.T) (f2:q78.T):Tab:=[(88,mkEntry q66.A q66.C fun x=>f0 x.1),(66,mkEntry q77.A q77.C fun x=>f1 x.1 x.2.1),(23,mkEntry q78.A q78.C fun x=>f2 x.1)]
def tab:Tab:=tv q66.F q77.F q78.F
def FV (f0:q66.T) (f1:q77.T) (f2:q78.T) (n_0:Node) (id:Int) (K:(Node×(List Outp))->Prop):Prop:=
 (bif(!n_0.up)then(bif(decide (([(⟨2,n_0.id,id,7,([]:Str)⟩:Outp)]:List Outp).length * 48≤room))then(K (n_0,([(⟨2,n_0.id,id,7,([]:Str)⟩:Outp)]:List Outp)))else False)else(bif n_0.primary then(bif(decide (([(⟨2,n_0.id,id,8,([]:Str)⟩:Outp)]:List Outp).length * 48≤room))then(K (n_0,([(⟨2,n_0.id,id,8,([]:Str)⟩:Outp)]:List Outp)))else False)else(bif n_0.store.sup.inc then(bif(decide (([(⟨2,n_0.id,id,9,([]:Str)⟩:Outp)]:List Outp).length * 48≤room))then(K (n_0,([(⟨2,n_0.id,id,9,([]:Str)⟩:Outp)]:List Outp)))else False)else(bif n_0.store.sup.dis then(bif(decide (([(⟨2,n_0.id,id,10,([]:Str)⟩:Outp)]:List Outp).length * 48≤room))then(K (n_0,([(⟨2,n_0.id,id,10,([]:Str)⟩:Outp)]:List Outp)))else False)else(bif(n_0.state==1)then(bif(decide (([(⟨2,n_0.id,id,11,([]:Str)⟩:Outp)]:List Outp).length * 48≤room))then(K (n_0,([(⟨2,n_0.id,id,11,([]:Str)⟩:Outp)]:List Outp)))else False)else(bif(n_0.state==4)then(bif(decide (([(⟨2,n_0.id,id,11,([]:Str)⟩:Outp)]:List Outp).length * 48≤room))then(K (n_0,([(⟨2,n_0.id,id,11,([]:Str)⟩:Outp)]:List Outp)))else False)else(bif n_0.asking then(bif(decide (([(⟨2,n_0.id,id,11,([]:Str)⟩:Outp)]:List Outp).length * 48≤room))then(K (n_0,([(⟨2,n_0.id,id,11,([]:Str)⟩:Outp)]:List Outp)))else False)else(bif n_0.peerPri then(bif(decide (([(⟨2,n_0.id,id,12,([]:Str)⟩:Outp)]:List Outp).length * 48≤room))then(K (n_0,([(⟨2,n_0.id,id,12,([]:Str)⟩:Outp)]:List Outp)))else False)else(bif(n_0.state==2)then(f0 (⟨10,n_0.session,(⟨0,(⟨0,0,0,0⟩:Vec),false,false,false,false,0⟩:Hello),0,([]:Str)⟩:Packet) fun r1=>(bif(decide (([(⟨1,n_0.id,0,0,r1.1⟩:Outp)]:List Outp).length * 48≤room))then(K ((⟨n_0.id,n_0.up,n_0.store,n_0.primary,n_0.state,n_0.session,n_0.peer,n_0.peerPri,n_0.req,true,id,n_0.wanted,n_0.minted,n_0.draws,n_0.mints⟩:Node),([(⟨1,n_0.id,0,0,r1.1⟩:Outp)]:List Outp)))else False))else(bif(n_0.state==3)then(f0 (⟨10,n_0.session,(⟨0,(⟨0,0,0,0⟩:Vec),false,false,false,false,0⟩:Hello),0,([]:Str)⟩:Packet) fun r2=>(bif(decide (([(⟨1,n_0.id,0,0,r2.1⟩:Outp)]:List Outp).length * 48≤room))then(K ((⟨n_0.id,n_0.up,n_0.store,n_0.primary,n_0.state,n_0.session,n_0.peer,n_0.peerPri,n_0.req,true,id,n_0.wanted,n_0.minted,n_0.draws,n_0.mints⟩:Node),([(⟨1,n_0.id,0,0,r2.1⟩:Outp)]:List Outp)))else False))else(f1 n_0.store (⟨n_0.store.sup.blocks,n_0.store.sup.vector,n_0.store.sup.inc,true,n_0.store.sup.dis⟩:Super) fun r3=>(bif(r3.2 != 0)then(f2 (⟨n_0.id,n_0.up,r3.1,n_0.primary,n_0.state,n_0.session,n_0.peer,n_0.peerPri,n_0.req,n_0.asking,n_0.askId,n_0.wanted,n_0.minted,n_0.draws,n_0.mints⟩:Node) fun r4=>(bif(r3.2==0)then(bif(decide (([(⟨2,r4.id,id,0,([]:Str)⟩:Outp)]:List Outp).length * 48≤room))then(K ((⟨r4.id,r4.up,r4.store,true,r4.state,r4.session,r4.peer,r4.peerPri,r4.req,r4.asking,r4.askId,r4.wanted,r4.minted,r4.draws,r4.mints⟩:Node),([(⟨2,r4.id,id,0,([]:Str)⟩:Outp)]:List Outp)))else False)else(K (r4,([]:List Outp)))))else(bif(r3.2==0)then(bif(decide (([(⟨2,n_0.id,id,0,([]:Str)⟩:Outp)]:List Outp).length * 48≤room))then(K ((⟨n_0.id,n_0.up,r3.1,true,n_0.state,n_0.session,n_0.peer,n_0.peerPri,n_0.req,n_0.asking,n_0.askId,n_0.wanted,n_0.minted,n_0.draws,n_0.mints⟩:Node),([(⟨2,n_0.id,id,0,([]:Str)⟩:Outp)]:List Outp)))else False)else(K ((⟨n_0.id,n_0.up,r3.1,n_0.primary,n_0.state,n_0.session,n_0.peer,n_0.peerPri,n_0.req,n_0.asking,n_0.askId,n_0.wanted,n_0.minted,n_0.draws,n_0.mints⟩:Node),([]:List Outp))))))))))))))))
def F (n_0:Node) (id:Int) (K:(Node×(List Outp))->Prop):Prop:=FV q66.F q77.F q78.F n_0 id K
def en:Entry:=mkEntry A C fun x=>F x.1 x.2.1
theorem eqv (f0:q66.T) (f1:q77.T) (f2:q78.T) (n_0:Node) (id:Int) (K:(Node×(List Outp))->Prop):apure E (tv f0 f1 f2) (fun _=>none) 4 12 [enc (.st 13) n_0,enc (.int .i64) id] (ansK C K)=FV f0 f1 f2 n_0 id K:=by kernel_rfl
theorem loops:LoopsOk E tab (fun _=>none) 4 12:=lpn _ _ _ _
theorem det (n_0:Node) (id:Int):Det (F n_0 id):=by
 unfold F FV
 repeat' with_reducible first|exact det_ret _|exact det_false|refine det_cond _ ?_ ?_|refine det_bind (q66.det _) (fun _=>?_)|refine det_bind (q77.det _ _) (fun _=>?_)|refine det_bind (q78.det _) (fun _=>?_)
theorem edet a:Det (en a):=mkD (fun x:Dens A=>det x.1 x.2.1) a
theorem ground:Ground E tab:=gnd (tbc q66.sound (tbc q77.sound (tbc q78.sound (tab_nil _)))) (dtc q66.edet (dtc q77.edet (dtc q78.edet dtn)))
theorem sound:EntrySound E 12 en:=mkSound ground loops (by kernel_rfl) (fun x K=>eqv q66.F q77.F q78.F x.1 x.2.1 K)
end q79
namespace q80
abbrev A:List Ty:=[(.st 13),(.int .i64)]
abbrev C:=(cTwo (.st 13) (.slice (.st 11)))
abbrev T:Type:=Node->Int->((Node×(List Outp))->Prop)->Prop
def tv (f0:q77.T) (f1:q78.T):Tab:=[(66,mkEntry q77.A q77.C fun x=>f0 x.1 x.2.1),(23,mkEntry q78.A q78.C fun x=>f1 x.1)]
def tab:Tab:=tv q77.F q78.F
def FV (f0:q77.T) (f1:q78.T) (n_0:Node) (id:Int) (K:(Node×(List Outp))->Prop):Prop:=
 (bif(!n_0.up)then(bif(decide (([(⟨2,n_0.id,id,7,([]:Str)⟩:Outp)]:List Outp).length * 48≤room))then(K (n_0,([(⟨2,n_0.id,id,7,([]:Str)⟩:Outp)]:List Outp)))else False)else(bif n_0.primary then(bif(decide (([(⟨2,n_0.id,id,8,([]:Str)⟩:Outp)]:List Outp).length * 48≤room))then(K (n_0,([(⟨2,n_0.id,id,8,([]:Str)⟩:Outp)]:List Outp)))else False)else(bif(n_0.state != 0)then(bif(decide (([(⟨2,n_0.id,id,11,([]:Str)⟩:Outp)]:List Outp).length * 48≤room))then(K (n_0,([(⟨2,n_0.id,id,11,([]:Str)⟩:Outp)]:List Outp)))else False)else(f0 n_0.store (⟨n_0.store.sup.blocks,n_0.store.sup.vector,n_0.store.sup.inc,n_0.store.sup.pri,true⟩:Super) fun r1=>(bif(r1.2 != 0)then(f1 (⟨n_0.id,n_0.up,r1.1,n_0.primary,n_0.state,n_0.session,n_0.peer,n_0.peerPri,n_0.req,n_0.asking,n_0.askId,n_0.wanted,n_0.minted,n_0.draws,n_0.mints⟩:Node) fun r2=>(bif(r1.2==0)then(bif(decide (([(⟨2,r2.id,id,0,([]:Str)⟩:Outp)]:List Outp).length * 48≤room))then(K (r2,([(⟨2,r2.id,id,0,([]:Str)⟩:Outp)]:List Outp)))else False)else(K (r2,([]:List Outp)))))else(bif(r1.2==0)then(bif(decide (([(⟨2,n_0.id,id,0,([]:Str)⟩:Outp)]:List Outp).length * 48≤room))then(K ((⟨n_0.id,n_0.up,r1.1,n_0.primary,n_0.state,n_0.session,n_0.peer,n_0.peerPri,n_0.req,n_0.asking,n_0.askId,n_0.wanted,n_0.minted,n_0.draws,n_0.mints⟩:Node),([(⟨2,n_0.id,id,0,([]:Str)⟩:Outp)]:List Outp)))else False)else(K ((⟨n_0.id,n_0.up,r1.1,n_0.primary,n_0.state,n_0.session,n_0.peer,n_0.peerPri,n_0.req,n_0.asking,n_0.askId,n_0.wanted,n_0.minted,n_0.draws,n_0.mints⟩:Node),([]:List Outp)))))))))
def F (n_0:Node) (id:Int) (K:(Node×(List Outp))->Prop):Prop:=FV q77.F q78.F n_0 id K
def en:Entry:=mkEntry A C fun x=>F x.1 x.2.1
theorem eqv (f0:q77.T) (f1:q78.T) (n_0:Node) (id:Int) (K:(Node×(List Outp))->Prop):apure E (tv f0 f1) (fun _=>none) 4 16 [enc (.st 13) n_0,enc (.int .i64) id] (ansK C K)=FV f0 f1 n_0 id K:=by kernel_rfl
theorem loops:LoopsOk E tab (fun _=>none) 4 16:=lpn _ _ _ _
theorem det (n_0:Node) (id:Int):Det (F n_0 id):=by
 unfold F FV
 repeat' with_reducible first|exact det_ret _|exact det_false|refine det_cond _ ?_ ?_|refine det_bind (q77.det _ _) (fun _=>?_)|refine det_bind (q78.det _) (fun _=>?_)
theorem edet a:Det (en a):=mkD (fun x:Dens A=>det x.1 x.2.1) a
theorem ground:Ground E tab:=gnd (tbc q77.sound (tbc q78.sound (tab_nil _))) (dtc q77.edet (dtc q78.edet dtn))
theorem sound:EntrySound E 16 en:=mkSound ground loops (by kernel_rfl) (fun x K=>eqv q77.F q78.F x.1 x.2.1 K)
end q80
namespace q81
abbrev A:List Ty:=[(.st 13),(.int .i64)]
abbrev C:=(cTwo (.st 13) (.slice (.st 11)))
abbrev T:Type:=Node->Int->((Node×(List Outp))->Prop)->Prop
def tv (f0:q77.T) (f1:q78.T) (f2:q66.T):Tab:=[(66,mkEntry q77.A q77.C fun x=>f0 x.1 x.2.1),(23,mkEntry q78.A q78.C fun x=>f1 x.1),(88,mkEntry q66.A q66.C fun x=>f2 x.1)]
def tab:Tab:=tv q77.F q78.F q66.F
def FV (f0:q77.T) (f1:q78.T) (f2:q66.T) (n_0:Node) (id:Int) (K:(Node×(List Outp))->Prop):Prop:=
 (bif(!n_0.up)then(bif(decide (([(⟨2,n_0.id,id,7,([]:Str)⟩:Outp)]:List Outp).length * 48≤room))then(K (n_0,([(⟨2,n_0.id,id,7,([]:Str)⟩:Outp)]:List Outp)))else False)else(bif(!n_0.primary)then(bif(decide (([(⟨2,n_0.id,id,8,([]:Str)⟩:Outp)]:List Outp).length * 48≤room))then(K (n_0,([(⟨2,n_0.id,id,8,([]:Str)⟩:Outp)]:List Outp)))else False)else(bif n_0.req.on then(bif(decide (([(⟨2,n_0.id,id,11,([]:Str)⟩:Outp)]:List Outp).length * 48≤room))then(K (n_0,([(⟨2,n_0.id,id,11,([]:Str)⟩:Outp)]:List Outp)))else False)else(bif(n_0.state==1)then(bif(decide (([(⟨2,n_0.id,id,11,([]:Str)⟩:Outp)]:List Outp).length * 48≤room))then(K (n_0,([(⟨2,n_0.id,id,11,([]:Str)⟩:Outp)]:List Outp)))else False)else(f0 n_0.store (⟨n_0.store.sup.blocks,n_0.store.sup.vector,n_0.store.sup.inc,false,n_0.store.sup.dis⟩:Super) fun r1=>(bif(r1.2 != 0)then(f1 (⟨n_0.id,n_0.up,r1.1,n_0.primary,n_0.state,n_0.session,n_0.peer,n_0.peerPri,n_0.req,n_0.asking,n_0.askId,n_0.wanted,n_0.minted,n_0.draws,n_0.mints⟩:Node) fun r2=>(bif(!(r1.2==0))then(K (r2,([]:List Outp)))else(bif(r2.state==2)then(f2 (⟨13,r2.session,(⟨0,(⟨0,0,0,0⟩:Vec),false,false,false,false,0⟩:Hello),0,([]:Str)⟩:Packet) fun r3=>(bif(decide (([(⟨1,r2.id,0,0,r3.1⟩:Outp)]:List Outp).length * 48≤room))then(bif(decide ((([(⟨1,r2.id,0,0,r3.1⟩:Outp)]:List Outp).length+([(⟨2,r2.id,id,0,([]:Str)⟩:Outp)]:List Outp).length) * 48≤room))then(K ((⟨r2.id,r2.up,r2.store,false,r2.state,r2.session,r2.peer,r2.peerPri,r2.req,r2.asking,r2.askId,r2.wanted,r2.minted,r2.draws,r2.mints⟩:Node),(([(⟨1,r2.id,0,0,r3.1⟩:Outp)]:List Outp)++([(⟨2,r2.id,id,0,([]:Str)⟩:Outp)]:List Outp))))else False)else False))else(bif(r2.state==3)then(f2 (⟨13,r2.session,(⟨0,(⟨0,0,0,0⟩:Vec),false,false,false,false,0⟩:Hello),0,([]:Str)⟩:Packet) fun r4=>(bif(decide (([(⟨1,r2.id,0,0,r4.1⟩:Outp)]:List Outp).length * 48≤room))then(bif(decide ((([(⟨1,r2.id,0,0,r4.1⟩:Outp)]:List Outp).length+([(⟨2,r2.id,id,0,([]:Str)⟩:Outp)]:List Outp).length) * 48≤room))then(K ((⟨r2.id,r2.up,r2.store,false,r2.state,r2.session,r2.peer,r2.peerPri,r2.req,r2.asking,r2.askId,r2.wanted,r2.minted,r2.draws,r2.mints⟩:Node),(([(⟨1,r2.id,0,0,r4.1⟩:Outp)]:List Outp)++([(⟨2,r2.id,id,0,([]:Str)⟩:Outp)]:List Outp))))else False)else False))else(bif(decide (([(⟨2,r2.id,id,0,([]:Str)⟩:Outp)]:List Outp).length * 48≤room))then(K ((⟨r2.id,r2.up,r2.store,false,r2.state,r2.session,r2.peer,r2.peerPri,r2.req,r2.asking,r2.askId,r2.wanted,r2.minted,r2.draws,r2.mints⟩:Node),([(⟨2,r2.id,id,0,([]:Str)⟩:Outp)]:List Outp)))else False)))))else(bif(!(r1.2==0))then(K ((⟨n_0.id,n_0.up,r1.1,n_0.primary,n_0.state,n_0.session,n_0.peer,n_0.peerPri,n_0.req,n_0.asking,n_0.askId,n_0.wanted,n_0.minted,n_0.draws,n_0.mints⟩:Node),([]:List Outp)))else(bif(n_0.state==2)then(f2 (⟨13,n_0.session,(⟨0,(⟨0,0,0,0⟩:Vec),false,false,false,false,0⟩:Hello),0,([]:Str)⟩:Packet) fun r5=>(bif(decide (([(⟨1,n_0.id,0,0,r5.1⟩:Outp)]:List Outp).length * 48≤room))then(bif(decide ((([(⟨1,n_0.id,0,0,r5.1⟩:Outp)]:List Outp).length+([(⟨2,n_0.id,id,0,([]:Str)⟩:Outp)]:List Outp).length) * 48≤room))then(K ((⟨n_0.id,n_0.up,r1.1,false,n_0.state,n_0.session,n_0.peer,n_0.peerPri,n_0.req,n_0.asking,n_0.askId,n_0.wanted,n_0.minted,n_0.draws,n_0.mints⟩:Node),(([(⟨1,n_0.id,0,0,r5.1⟩:Outp)]:List Outp)++([(⟨2,n_0.id,id,0,([]:Str)⟩:Outp)]:List Outp))))else False)else False))else(bif(n_0.state==3)then(f2 (⟨13,n_0.session,(⟨0,(⟨0,0,0,0⟩:Vec),false,false,false,false,0⟩:Hello),0,([]:Str)⟩:Packet) fun r6=>(bif(decide (([(⟨1,n_0.id,0,0,r6.1⟩:Outp)]:List Outp).length * 48≤room))then(bif(decide ((([(⟨1,n_0.id,0,0,r6.1⟩:Outp)]:List Outp).length+([(⟨2,n_0.id,id,0,([]:Str)⟩:Outp)]:List Outp).length) * 48≤room))then(K ((⟨n_0.id,n_0.up,r1.1,false,n_0.state,n_0.session,n_0.peer,n_0.peerPri,n_0.req,n_0.asking,n_0.askId,n_0.wanted,n_0.minted,n_0.draws,n_0.mints⟩:Node),(([(⟨1,n_0.id,0,0,r6.1⟩:Outp)]:List Outp)++([(⟨2,n_0.id,id,0,([]:Str)⟩:Outp)]:List Outp))))else False)else False))else(bif(decide (([(⟨2,n_0.id,id,0,([]:Str)⟩:Outp)]:List Outp).length * 48≤room))then(K ((⟨n_0.id,n_0.up,r1.1,false,n_0.state,n_0.session,n_0.peer,n_0.peerPri,n_0.req,n_0.asking,n_0.askId,n_0.wanted,n_0.minted,n_0.draws,n_0.mints⟩:Node),([(⟨2,n_0.id,id,0,([]:Str)⟩:Outp)]:List Outp)))else False))))))))))
def F (n_0:Node) (id:Int) (K:(Node×(List Outp))->Prop):Prop:=FV q77.F q78.F q66.F n_0 id K
def en:Entry:=mkEntry A C fun x=>F x.1 x.2.1
theorem eqv (f0:q77.T) (f1:q78.T) (f2:q66.T) (n_0:Node) (id:Int) (K:(Node×(List Outp))->Prop):apure E (tv f0 f1 f2) (fun _=>none) 4 14 [enc (.st 13) n_0,enc (.int .i64) id] (ansK C K)=FV f0 f1 f2 n_0 id K:=by kernel_rfl
theorem loops:LoopsOk E tab (fun _=>none) 4 14:=lpn _ _ _ _
theorem det (n_0:Node) (id:Int):Det (F n_0 id):=by
 unfold F FV
 repeat' with_reducible first|exact det_ret _|exact det_false|refine det_cond _ ?_ ?_|refine det_bind (q77.det _ _) (fun _=>?_)|refine det_bind (q78.det _) (fun _=>?_)|refine det_bind (q66.det _) (fun _=>?_)
theorem edet a:Det (en a):=mkD (fun x:Dens A=>det x.1 x.2.1) a
theorem ground:Ground E tab:=gnd (tbc q77.sound (tbc q78.sound (tbc q66.sound (tab_nil _)))) (dtc q77.edet (dtc q78.edet (dtc q66.edet dtn)))
theorem sound:EntrySound E 14 en:=mkSound ground loops (by kernel_rfl) (fun x K=>eqv q77.F q78.F q66.F x.1 x.2.1 K)
end q81
end Gm
end
