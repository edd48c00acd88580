/- Printed by a program (gen.py): the functions' answers, and that they are so. -/
import Derived.Test.YtlaijgoahmigmaaGreatDoorGdT5
set_option linter.unusedVariables false
set_option maxRecDepth 100000
namespace Gm
open Go Go.Proofs
namespace q147
abbrev A:List Ty:=[(.st 5)]
abbrev C:=(cTwo .str (.int .i64))
abbrev T:Type:=Packet->((Str×Int)->Prop)->Prop
noncomputable def tv (f0:q139.T) (f1:q131.T) (f2:q141.T) (f3:q144.T) (f4:q146.T):Tab:=[(164,mkEntry q139.A q139.C fun x=>f0 x.1),(165,mkEntry q131.A q131.C fun x=>f1 x.1),(166,mkEntry q141.A q141.C fun x=>f2 x.1),(167,mkEntry q144.A q144.C fun x=>f3 x.1),(157,mkEntry q146.A q146.C fun x=>f4 x.1)]
noncomputable def tab:Tab:=tv q139.F q131.F q141.F q144.F q146.F
def FV (f0:q139.T) (f1:q131.T) (f2:q141.T) (f3:q144.T) (f4:q146.T) (p:Packet) (K:(Str×Int)->Prop):Prop:=
 (f0 p fun r1=>(bif(!r1)then(K (([]:Str),1))else(f1 p.kind fun r2=>(f2 p.session fun r3=>(bif(fits ((bytesOfInts ([(IntKind.u8.wrap p.kind)]:List Int)).length+r3.length))then(bif r2.1.hello then(f3 p.hello fun r4=>(bif(fits (((bytesOfInts ([(IntKind.u8.wrap p.kind)]:List Int))++r3).length+r4.1.length))then(bif r2.1.block then(bif(fits ((((bytesOfInts ([(IntKind.u8.wrap p.kind)]:List Int))++r3)++r4.1).length+(bytesOfInts ([(IntKind.u8.wrap p.block)]:List Int)).length))then(bif(fits (((((bytesOfInts ([(IntKind.u8.wrap p.kind)]:List Int))++r3)++r4.1)++(bytesOfInts ([(IntKind.u8.wrap p.block)]:List Int))).length+p.data.length))then(f4 (((((bytesOfInts ([(IntKind.u8.wrap p.kind)]:List Int))++r3)++r4.1)++(bytesOfInts ([(IntKind.u8.wrap p.block)]:List Int)))++p.data) fun r5=>(K (r5,0)))else False)else False)else(bif(fits ((((bytesOfInts ([(IntKind.u8.wrap p.kind)]:List Int))++r3)++r4.1).length+p.data.length))then(f4 ((((bytesOfInts ([(IntKind.u8.wrap p.kind)]:List Int))++r3)++r4.1)++p.data) fun r6=>(K (r6,0)))else False))else False))else(bif r2.1.block then(bif(fits (((bytesOfInts ([(IntKind.u8.wrap p.kind)]:List Int))++r3).length+(bytesOfInts ([(IntKind.u8.wrap p.block)]:List Int)).length))then(bif(fits ((((bytesOfInts ([(IntKind.u8.wrap p.kind)]:List Int))++r3)++(bytesOfInts ([(IntKind.u8.wrap p.block)]:List Int))).length+p.data.length))then(f4 ((((bytesOfInts ([(IntKind.u8.wrap p.kind)]:List Int))++r3)++(bytesOfInts ([(IntKind.u8.wrap p.block)]:List Int)))++p.data) fun r7=>(K (r7,0)))else False)else False)else(bif(fits (((bytesOfInts ([(IntKind.u8.wrap p.kind)]:List Int))++r3).length+p.data.length))then(f4 (((bytesOfInts ([(IntKind.u8.wrap p.kind)]:List Int))++r3)++p.data) fun r8=>(K (r8,0)))else False)))else False)))))
def F (p:Packet) (K:(Str×Int)->Prop):Prop:=FV q139.F q131.F q141.F q144.F q146.F p K
noncomputable def en:Entry:=mkEntry A C fun x=>F x.1
theorem eqv (f0:q139.T) (f1:q131.T) (f2:q141.T) (f3:q144.T) (f4:q146.T) (p:Packet) (K:(Str×Int)->Prop):apure E (tv f0 f1 f2 f3 f4) (fun _=>none) 4 106 [enc (.st 5) p] (ansK C K)=FV f0 f1 f2 f3 f4 p K:=by kernel_rfl
theorem loops:LoopsOk E tab (fun _=>none) 4 106:=loops_none _ _ _ _
theorem det (p:Packet):Det (F p):=by
 unfold F FV
 repeat' with_reducible first|exact det_ret _|exact det_false|refine det_cond _ ?_ ?_|refine det_bind (q139.det _) (fun _=>?_)|refine det_bind (q131.det _) (fun _=>?_)|refine det_bind (q141.det _) (fun _=>?_)|refine det_bind (q144.det _) (fun _=>?_)|refine det_bind (q146.det _) (fun _=>?_)
theorem edet (a:List AV):Det (en a):=mkEntry_det (fun x:Dens A=>det x.1) a
theorem ground:Ground E tab:=⟨num,mixed,(tab_cons q139.sound (tab_cons q131.sound (tab_cons q141.sound (tab_cons q144.sound (tab_cons q146.sound (tab_nil _)))))),clone,(dtab_cons q139.edet (dtab_cons q131.edet (dtab_cons q141.edet (dtab_cons q144.edet (dtab_cons q146.edet dtab_nil))))),stab⟩
theorem sound:EntrySound E 106 en:=mkSound ground loops (by kernel_rfl) (fun (x:Dens A) K=>eqv q139.F q131.F q141.F q144.F q146.F x.1 K)
end q147
namespace q148
abbrev A:List Ty:=[(.st 13),(.int .i64)]
abbrev C:=(cTwo (.st 13) (.slice (.st 11)))
abbrev T:Type:=Node->Int->((Node×(List Outp))->Prop)->Prop
noncomputable def tv (f0:q130.T) (f1:q147.T):Tab:=[(83,mkEntry q130.A q130.C fun x=>f0 x.1 x.2.1),(106,mkEntry q147.A q147.C fun x=>f1 x.1)]
noncomputable def tab:Tab:=tv q130.F q147.F
def FV (f0:q130.T) (f1:q147.T) (n_0:Node) (block:Int) (K:(Node×(List Outp))->Prop):Prop:=
 (f0 n_0.store block fun r1=>(f1 (⟨6,n_0.session,(⟨0,(⟨0,0,0,0⟩:Vec),false,false,false,false,0⟩:Hello),block,r1.1⟩:Packet) fun r2=>(bif(decide (([(⟨1,n_0.id,0,0,r2.1⟩:Outp)]:List Outp).length * 48≤room))then(K (n_0,([(⟨1,n_0.id,0,0,r2.1⟩:Outp)]:List Outp)))else False)))
def F (n_0:Node) (block:Int) (K:(Node×(List Outp))->Prop):Prop:=FV q130.F q147.F n_0 block K
noncomputable def en:Entry:=mkEntry A C fun x=>F x.1 x.2.1
theorem eqv (f0:q130.T) (f1:q147.T) (n_0:Node) (block:Int) (K:(Node×(List Outp))->Prop):apure E (tv f0 f1) (fun _=>none) 4 35 [enc (.st 13) n_0,enc (.int .i64) block] (ansK C K)=FV f0 f1 n_0 block K:=by kernel_rfl
theorem loops:LoopsOk E tab (fun _=>none) 4 35:=loops_none _ _ _ _
theorem det (n_0:Node) (block:Int):Det (F n_0 block):=by
 unfold F FV
 repeat' with_reducible first|exact det_ret _|exact det_false|refine det_cond _ ?_ ?_|refine det_bind (q130.det _ _) (fun _=>?_)|refine det_bind (q147.det _) (fun _=>?_)
theorem edet (a:List AV):Det (en a):=mkEntry_det (fun x:Dens A=>det x.1 x.2.1) a
theorem ground:Ground E tab:=⟨num,mixed,(tab_cons q130.sound (tab_cons q147.sound (tab_nil _))),clone,(dtab_cons q130.edet (dtab_cons q147.edet dtab_nil)),stab⟩
theorem sound:EntrySound E 35 en:=mkSound ground loops (by kernel_rfl) (fun (x:Dens A) K=>eqv q130.F q147.F x.1 x.2.1 K)
end q148
namespace q149
abbrev A:List Ty:=[(.st 1),(.int .i64)]
abbrev C:=(cTy .bool)
abbrev T:Type:=Disk->Int->(Bool->Prop)->Prop
noncomputable def tab:Tab:=[]
def F (d:Disk) (i:Int) (K:Bool->Prop):Prop:=
 (bif(decide (i≥0))then(K (decide (i < (d.sure.length:Int))))else(K false))
noncomputable def en:Entry:=mkEntry A C fun x=>F x.1 x.2.1
theorem eqv (d:Disk) (i:Int) (K:Bool->Prop):apure E tab (fun _=>none) 4 210 [enc (.st 1) d,enc (.int .i64) i] (ansK C K)=F d i K:=by kernel_rfl
theorem loops:LoopsOk E tab (fun _=>none) 4 210:=loops_none _ _ _ _
theorem det (d:Disk) (i:Int):Det (F d i):=by
 unfold F
 repeat' with_reducible first|exact det_ret _|refine det_cond _ ?_ ?_
theorem edet (a:List AV):Det (en a):=mkEntry_det (fun x:Dens A=>det x.1 x.2.1) a
theorem ground:Ground E tab:=⟨num,mixed,(tab_nil _),clone,dtab_nil,stab⟩
theorem sound:EntrySound E 210 en:=mkSound ground loops (by kernel_rfl) (fun (x:Dens A) K=>eqv  x.1 x.2.1 K)
end q149
namespace q150
abbrev A:List Ty:=[.str]
abbrev C:=(cTy .bool)
abbrev T:Type:=Str->(Bool->Prop)->Prop
noncomputable def tab:Tab:=[]
def F (s:Str) (K:Bool->Prop):Prop:=
 (K (decide ((s.length:Int) > 64)))
noncomputable def en:Entry:=mkEntry A C fun x=>F x.1
theorem eqv (s:Str) (K:Bool->Prop):apure E tab (fun _=>none) 4 211 [enc .str s] (ansK C K)=F s K:=by kernel_rfl
theorem loops:LoopsOk E tab (fun _=>none) 4 211:=loops_none _ _ _ _
theorem det (s:Str):Det (F s):=by
 unfold F
 repeat' with_reducible first|exact det_ret _
theorem edet (a:List AV):Det (en a):=mkEntry_det (fun x:Dens A=>det x.1) a
theorem ground:Ground E tab:=⟨num,mixed,(tab_nil _),clone,dtab_nil,stab⟩
theorem sound:EntrySound E 211 en:=mkSound ground loops (by kernel_rfl) (fun (x:Dens A) K=>eqv  x.1 K)
end q150
namespace q151
abbrev A:List Ty:=[(.st 1)]
abbrev C:=(cTy (.st 1))
abbrev T:Type:=Disk->(Disk->Prop)->Prop
noncomputable def tab:Tab:=[]
def F (d:Disk) (K:Disk->Prop):Prop:=
 (K (⟨d.sure,d.cache,0,true⟩:Disk))
noncomputable def en:Entry:=mkEntry A C fun x=>F x.1
theorem eqv (d:Disk) (K:Disk->Prop):apure E tab (fun _=>none) 4 151 [enc (.st 1) d] (ansK C K)=F d K:=by kernel_rfl
theorem loops:LoopsOk E tab (fun _=>none) 4 151:=loops_none _ _ _ _
theorem det (d:Disk):Det (F d):=by
 unfold F
 repeat' with_reducible first|exact det_ret _
theorem edet (a:List AV):Det (en a):=mkEntry_det (fun x:Dens A=>det x.1) a
theorem ground:Ground E tab:=⟨num,mixed,(tab_nil _),clone,dtab_nil,stab⟩
theorem sound:EntrySound E 151 en:=mkSound ground loops (by kernel_rfl) (fun (x:Dens A) K=>eqv  x.1 K)
end q151
namespace q152
abbrev A:List Ty:=[(.st 1),(.int .i64),.str]
abbrev C:=(cTwo (.st 1) (.int .i64))
abbrev T:Type:=Disk->Int->Str->((Disk×Int)->Prop)->Prop
noncomputable def tv (f0:q149.T) (f1:q150.T) (f2:q151.T):Tab:=[(210,mkEntry q149.A q149.C fun x=>f0 x.1 x.2.1),(211,mkEntry q150.A q150.C fun x=>f1 x.1),(151,mkEntry q151.A q151.C fun x=>f2 x.1)]
noncomputable def tab:Tab:=tv q149.F q150.F q151.F
def FV (f0:q149.T) (f1:q150.T) (f2:q151.T) (d:Disk) (i:Int) (data:Str) (K:(Disk×Int)->Prop):Prop:=
 (bif d.dead then(K (d,6))else(f0 d i fun r1=>(bif(!r1)then(K (d,4))else(f1 data fun r2=>(bif r2 then(K (d,5))else(bif(d.fuse==0)then(bif(decide (d.cache.length * 24≤room))then(bif(decide (0≤(d.cache.length:Int))&&decide ((d.cache.length:Int)≤(d.cache.length:Int))&&(d.cache.length:Int)==(d.cache.length:Int))then(bif(decide (((sub d.cache 0 (Int.toNat (d.cache.length:Int))).length+([(⟨i,data⟩:Write)]:List Write).length) * 24≤room))then(K ((⟨d.sure,((sub d.cache 0 (Int.toNat (d.cache.length:Int)))++([(⟨i,data⟩:Write)]:List Write)),d.fuse,d.dead⟩:Disk),0))else False)else False)else False)else(bif(d.fuse==1)then(f2 d fun r3=>(K (r3,6)))else(bif(decide (d.cache.length * 24≤room))then(bif(decide (0≤(d.cache.length:Int))&&decide ((d.cache.length:Int)≤(d.cache.length:Int))&&(d.cache.length:Int)==(d.cache.length:Int))then(bif(decide (((sub d.cache 0 (Int.toNat (d.cache.length:Int))).length+([(⟨i,data⟩:Write)]:List Write).length) * 24≤room))then(K ((⟨d.sure,((sub d.cache 0 (Int.toNat (d.cache.length:Int)))++([(⟨i,data⟩:Write)]:List Write)),(IntKind.i64.wrap (d.fuse - 1)),d.dead⟩:Disk),0))else False)else False)else False))))))))
def F (d:Disk) (i:Int) (data:Str) (K:(Disk×Int)->Prop):Prop:=FV q149.F q150.F q151.F d i data K
noncomputable def en:Entry:=mkEntry A C fun x=>F x.1 x.2.1 x.2.2.1
theorem eqv (f0:q149.T) (f1:q150.T) (f2:q151.T) (d:Disk) (i:Int) (data:Str) (K:(Disk×Int)->Prop):apure E (tv f0 f1 f2) (fun _=>none) 4 153 [enc (.st 1) d,enc (.int .i64) i,enc .str data] (ansK C K)=FV f0 f1 f2 d i data K:=by kernel_rfl
theorem loops:LoopsOk E tab (fun _=>none) 4 153:=loops_none _ _ _ _
theorem det (d:Disk) (i:Int) (data:Str):Det (F d i data):=by
 unfold F FV
 repeat' with_reducible first|exact det_ret _|exact det_false|refine det_cond _ ?_ ?_|refine det_bind (q149.det _ _) (fun _=>?_)|refine det_bind (q150.det _) (fun _=>?_)|refine det_bind (q151.det _) (fun _=>?_)
theorem edet (a:List AV):Det (en a):=mkEntry_det (fun x:Dens A=>det x.1 x.2.1 x.2.2.1) a
theorem ground:Ground E tab:=⟨num,mixed,(tab_cons q149.sound (tab_cons q150.sound (tab_cons q151.sound (tab_nil _)))),clone,(dtab_cons q149.edet (dtab_cons q150.edet (dtab_cons q151.edet dtab_nil))),stab⟩
theorem sound:EntrySound E 153 en:=mkSound ground loops (by kernel_rfl) (fun (x:Dens A) K=>eqv q149.F q150.F q151.F x.1 x.2.1 x.2.2.1 K)
end q152
namespace q153
abbrev A:List Ty:=[(.slice .str),(.slice (.st 0))]
abbrev C:=(cTy (.slice .str))
abbrev T:Type:=(List Str)->(List Write)->((List Str)->Prop)->Prop
noncomputable def tab:Tab:=[]
structure R where
def cR (_:R):St:={ fr:=fun _=>.top,hs:=hs0 }
def kR:Keep:={ ks:=[],bs:=[],hn:=0 }
structure L0 where
 sure:(List Str)
 t9:(List Write)
 t10:Int
 t11:Int
def c0 (x:L0):St:={ fr:=lookL .top [(0,(.slr 1)),(9,(.sl .any (.st 0) x.t9)),(10,(.int .i64 x.t10)),(11,(.int .i64 x.t11))],hs:={ hp:=lookL .dead [(1,(.row false .str x.sure))],hn:=2 } }
def kp0:Keep:={ ks:=[(0,some 1),(9,none),(10,none),(11,none)],bs:=[],hn:=2 }
def p0 (st:St) (K:L0->Prop):Prop:=gHomes kp0 st <| gSlr (st.fr 0) fun c1=>gRow false .str (st.hs.hp c1) fun a2=>gSl .any (.st 0) (st.fr 9) fun a3=>gInt .i64 (st.fr 10) fun a4=>gInt .i64 (st.fr 11) fun a5=>K ⟨a2,a3,a4,a5⟩
set_option maxHeartbeats 4000000 in
theorem p0_ok (st:St) (K:L0->Prop) (h:p0 st K):∃ x,keepSt kp0 st=c0 x∧K x:=by
 obtain ⟨h0,h⟩:=gHomes_elim h
 obtain ⟨c1,h1,h⟩:=gSlr_elim h
 obtain ⟨a2,h2,h⟩:=gRow_elim h
 obtain ⟨a3,h3,h⟩:=gSl_elim h
 obtain ⟨a4,h4,h⟩:=gInt_elim h
 obtain ⟨a5,h5,h⟩:=gInt_elim h
 refine⟨_,?_,h⟩
 simp only [keepSt,h0]
 simp only [kp0,List.map,List.filterMap,homeOf,h1,h2,h3,h4,h5,hmOf,List.append_nil,cond_true]
 rfl
def b0 (rec kx:L0->Prop) (kr:R->Prop) (x:L0):Prop:=
 (bif(decide (x.t11 < x.t10))then(oget (getI x.t9 x.t11) fun v1=>(bif(decide (0≤v1.sector)&&decide (v1.sector < (x.sure.length:Int)))then(rec ⟨(x.sure.set (Int.toNat v1.sector) v1.data),x.t9,x.t10,(IntKind.i64.wrap (x.t11+1))⟩)else False))else(kx ⟨x.sure,x.t9,x.t10,x.t11⟩))
def lt:Nat->Option LSpec
 | 0=>some (mkLoop 0 kp0 kR p0 c0 cR b0)
 | _=>none
def F (sure:(List Str)) (writes:(List Write)) (K:(List Str)->Prop):Prop:=
 (bif(decide (sure.length * 16≤room))then(∃ n,loopB b0 n (fun x2=>(K x2.sure)) (fun _=>False) ⟨sure,writes,(writes.length:Int),0⟩)else False)
noncomputable def en:Entry:=mkEntry A C fun x=>F x.1 x.2.1
theorem eqv (sure:(List Str)) (writes:(List Write)) (K:(List Str)->Prop):apure E tab lt 4 215 [enc (.slice .str) sure,enc (.slice (.st 0)) writes] (ansK C K)=F sure writes K:=by kernel_rfl
theorem l0v (R:St->Prop) (Kx:Nat->St->Prop) (Kr:St->Prop) (x:L0):acode E tab (afun E tab 4) 23 lt ((loopsIn E.P 215).getD 0 (0,.skip)).2 0 (fun s=>R (keepSt kp0 s)) (fun j s=>Kx j (keepSt kp0 s)) (fun s=>Kr (keepSt kR s)) (c0 x)=b0 (fun x=>R (c0 x)) (fun x=>Kx 0 (c0 x)) (fun r=>Kr (cR r)) x:=by kernel_rfl
theorem l0_ok:LSound E tab (afun E tab 4) 23 lt 0 ((loopsIn E.P 215).getD 0 (0,.skip)).2 (mkLoop 0 kp0 kR p0 c0 cR b0):=mkLoop_sound (by decide) (by decide) p0_ok (fun R Kx Kr x=>l0v  R Kx Kr x)
theorem loops:LoopsOk E tab lt 4 215:=loops_of (nt:=23) (ids:=[0]) (by kernel_rfl) (by kernel_rfl) (by
 intro k i hk l hl
 match k,hk with
 | 0,hk=>cases hk;cases hl;exact l0_ok
 | _+1,hk=>exact absurd hk (by simp))
theorem det (sure:(List Str)) (writes:(List Write)):Det (F sure writes):=by
 unfold F
 repeat' with_reducible first|exact det_ret _|exact det_false|refine det_cond _ ?_ ?_|refine det_oget _ (fun _=>?_)|refine det_loop (fun _=>?_) (fun _=>?_) (fun _=>?_) _ | unfold b0
theorem edet (a:List AV):Det (en a):=mkEntry_det (fun x:Dens A=>det x.1 x.2.1) a
theorem ground:Ground E tab:=⟨num,mixed,(tab_nil _),clone,dtab_nil,stab⟩
theorem sound:EntrySound E 215 en:=mkSound ground loops (by kernel_rfl) (fun (x:Dens A) K=>eqv  x.1 x.2.1 K)
end q153
namespace q154
abbrev A:List Ty:=[(.st 1)]
abbrev C:=(cTwo (.st 1) (.int .i64))
abbrev T:Type:=Disk->((Disk×Int)->Prop)->Prop
noncomputable def tv (f0:q153.T) (f1:q151.T):Tab:=[(215,mkEntry q153.A q153.C fun x=>f0 x.1 x.2.1),(151,mkEntry q151.A q151.C fun x=>f1 x.1)]
noncomputable def tab:Tab:=tv q153.F q151.F
def FV (f0:q153.T) (f1:q151.T) (d:Disk) (K:(Disk×Int)->Prop):Prop:=
 (bif d.dead then(K (d,6))else(bif(d.fuse==0)then(f0 d.sure d.cache fun r1=>(K ((⟨r1,([]:List Write),d.fuse,d.dead⟩:Disk),0)))else(bif(d.fuse==1)then(f1 d fun r2=>(K (r2,6)))else(f0 d.sure d.cache fun r3=>(K ((⟨r3,([]:List Write),(IntKind.i64.wrap (d.fuse - 1)),d.dead⟩:Disk),0))))))
def F (d:Disk) (K:(Disk×Int)->Prop):Prop:=FV q153.F q151.F d K
noncomputable def en:Entry:=mkEntry A C fun x=>F x.1
theorem eqv (f0:q153.T) (f1:q151.T) (d:Disk) (K:(Disk×Int)->Prop):apure E (tv f0 f1) (fun _=>none) 4 154 [enc (.st 1) d] (ansK C K)=FV f0 f1 d K:=by kernel_rfl
theorem loops:LoopsOk E tab (fun _=>none) 4 154:=loops_none _ _ _ _
theorem det (d:Disk):Det (F d):=by
 unfold F FV
 repeat' with_reducible first|exact det_ret _|refine det_cond _ ?_ ?_|refine det_bind (q153.det _ _) (fun _=>?_)|refine det_bind (q151.det _) (fun _=>?_)
theorem edet (a:List AV):Det (en a):=mkEntry_det (fun x:Dens A=>det x.1) a
theorem ground:Ground E tab:=⟨num,mixed,(tab_cons q153.sound (tab_cons q151.sound (tab_nil _))),clone,(dtab_cons q153.edet (dtab_cons q151.edet dtab_nil)),stab⟩
theorem sound:EntrySound E 154 en:=mkSound ground loops (by kernel_rfl) (fun (x:Dens A) K=>eqv q153.F q151.F x.1 K)
end q154
namespace q155
abbrev A:List Ty:=[(.st 1),(.int .i64),.str]
abbrev C:=(cTwo (.st 1) (.int .i64))
abbrev T:Type:=Disk->Int->Str->((Disk×Int)->Prop)->Prop
noncomputable def tv (f0:q128.T) (f1:q152.T) (f2:q154.T):Tab:=[(152,mkEntry q128.A q128.C fun x=>f0 x.1 x.2.1),(153,mkEntry q152.A q152.C fun x=>f1 x.1 x.2.1 x.2.2.1),(154,mkEntry q154.A q154.C fun x=>f2 x.1)]
noncomputable def tab:Tab:=tv q128.F q152.F q154.F
def FV (f0:q128.T) (f1:q152.T) (f2:q154.T) (d:Disk) (i:Int) (data:Str) (K:(Disk×Int)->Prop):Prop:=
 (f0 d i fun r1=>(bif(!r1)then(K (d,4))else(bif((data.length:Int) != 8)then(K (d,5))else(f1 d (IntKind.i64.wrap (i+2)) data fun r2=>(bif(r2.2 != 0)then(K (r2.1,r2.2))else(f2 r2.1 fun r3=>(K (r3.1,r3.2))))))))
def F (d:Disk) (i:Int) (data:Str) (K:(Disk×Int)->Prop):Prop:=FV q128.F q152.F q154.F d i data K
noncomputable def en:Entry:=mkEntry A C fun x=>F x.1 x.2.1 x.2.2.1
theorem eqv (f0:q128.T) (f1:q152.T) (f2:q154.T) (d:Disk) (i:Int) (data:Str) (K:(Disk×Int)->Prop):apure E (tv f0 f1 f2) (fun _=>none) 4 94 [enc (.st 1) d,enc (.int .i64) i,enc .str data] (ansK C K)=FV f0 f1 f2 d i data K:=by kernel_rfl
theorem loops:LoopsOk E tab (fun _=>none) 4 94:=loops_none _ _ _ _
theorem det (d:Disk) (i:Int) (data:Str):Det (F d i data):=by
 unfold F FV
 repeat' with_reducible first|exact det_ret _|refine det_cond _ ?_ ?_|refine det_bind (q128.det _ _) (fun _=>?_)|refine det_bind (q152.det _ _ _) (fun _=>?_)|refine det_bind (q154.det _) (fun _=>?_)
theorem edet (a:List AV):Det (en a):=mkEntry_det (fun x:Dens A=>det x.1 x.2.1 x.2.2.1) a
theorem ground:Ground E tab:=⟨num,mixed,(tab_cons q128.sound (tab_cons q152.sound (tab_cons q154.sound (tab_nil _)))),clone,(dtab_cons q128.edet (dtab_cons q152.edet (dtab_cons q154.edet dtab_nil))),stab⟩
theorem sound:EntrySound E 94 en:=mkSound ground loops (by kernel_rfl) (fun (x:Dens A) K=>eqv q128.F q152.F q154.F x.1 x.2.1 x.2.2.1 K)
end q155
namespace q156
abbrev A:List Ty:=[(.st 8),(.int .i64),.str]
abbrev C:=(cTwo (.st 8) (.int .i64))
abbrev T:Type:=Store->Int->Str->((Store×Int)->Prop)->Prop
noncomputable def tv (f0:q155.T):Tab:=[(94,mkEntry q155.A q155.C fun x=>f0 x.1 x.2.1 x.2.2.1)]
noncomputable def tab:Tab:=tv q155.F
def FV (f0:q155.T) (s:Store) (i:Int) (data:Str) (K:(Store×Int)->Prop):Prop:=
 (f0 s.disk i data fun r1=>(K ((⟨r1.1,s.sup,s.mask⟩:Store),r1.2)))
def F (s:Store) (i:Int) (data:Str) (K:(Store×Int)->Prop):Prop:=FV q155.F s i data K
noncomputable def en:Entry:=mkEntry A C fun x=>F x.1 x.2.1 x.2.2.1
theorem eqv (f0:q155.T) (s:Store) (i:Int) (data:Str) (K:(Store×Int)->Prop):apure E (tv f0) (fun _=>none) 4 45 [enc (.st 8) s,enc (.int .i64) i,enc .str data] (ansK C K)=FV f0 s i data K:=by kernel_rfl
theorem loops:LoopsOk E tab (fun _=>none) 4 45:=loops_none _ _ _ _
theorem det (s:Store) (i:Int) (data:Str):Det (F s i data):=by
 unfold F FV
 repeat' with_reducible first|exact det_ret _|refine det_bind (q155.det _ _ _) (fun _=>?_)
theorem edet (a:List AV):Det (en a):=mkEntry_det (fun x:Dens A=>det x.1 x.2.1 x.2.2.1) a
theorem ground:Ground E tab:=⟨num,mixed,(tab_cons q155.sound (tab_nil _)),clone,(dtab_cons q155.edet dtab_nil),stab⟩
theorem sound:EntrySound E 45 en:=mkSound ground loops (by kernel_rfl) (fun (x:Dens A) K=>eqv q155.F x.1 x.2.1 x.2.2.1 K)
end q156
namespace q157
abbrev A:List Ty:=[(.st 13)]
abbrev C:=(cTy (.st 13))
abbrev T:Type:=Node->(Node->Prop)->Prop
noncomputable def tv (f0:q151.T):Tab:=[(151,mkEntry q151.A q151.C fun x=>f0 x.1)]
noncomputable def tab:Tab:=tv q151.F
def FV (f0:q151.T) (n_0:Node) (K:Node->Prop):Prop:=
 (f0 n_0.store.disk fun r1=>(K (⟨n_0.id,false,(⟨r1,(⟨0,(⟨0,0,0,0⟩:Vec),false,false,false⟩:Super),0⟩:Store),false,0,0,(⟨0,(⟨0,0,0,0⟩:Vec),false,false,false,false,0⟩:Hello),false,(⟨false,0,0,([]:Str)⟩:Req),false,0,0,false,n_0.draws,n_0.mints⟩:Node)))
def F (n_0:Node) (K:Node->Prop):Prop:=FV q151.F n_0 K
noncomputable def en:Entry:=mkEntry A C fun x=>F x.1
theorem eqv (f0:q151.T) (n_0:Node) (K:Node->Prop):apure E (tv f0) (fun _=>none) 4 93 [enc (.st 13) n_0] (ansK C K)=FV f0 n_0 K:=by kernel_rfl
theorem loops:LoopsOk E tab (fun _=>none) 4 93:=loops_none _ _ _ _
theorem det (n_0:Node):Det (F n_0):=by
 unfold F FV
 repeat' with_reducible first|exact det_ret _|refine det_bind (q151.det _) (fun _=>?_)
theorem edet (a:List AV):Det (en a):=mkEntry_det (fun x:Dens A=>det x.1) a
theorem ground:Ground E tab:=⟨num,mixed,(tab_cons q151.sound (tab_nil _)),clone,(dtab_cons q151.edet dtab_nil),stab⟩
theorem sound:EntrySound E 93 en:=mkSound ground loops (by kernel_rfl) (fun (x:Dens A) K=>eqv q151.F x.1 K)
end q157
namespace q158
abbrev A:List Ty:=[(.st 8),(.int .i64)]
abbrev C:=(cTy .bool)
abbrev T:Type:=Store->Int->(Bool->Prop)->Prop
noncomputable def tab:Tab:=[]
def F (s:Store) (i:Int) (K:Bool->Prop):Prop:=
 (bif(decide (i≥0))then(K (decide (i < s.sup.blocks)))else(K false))
noncomputable def en:Entry:=mkEntry A C fun x=>F x.1 x.2.1
theorem eqv (s:Store) (i:Int) (K:Bool->Prop):apure E tab (fun _=>none) 4 95 [enc (.st 8) s,enc (.int .i64) i] (ansK C K)=F s i K:=by kernel_rfl
theorem loops:LoopsOk E tab (fun _=>none) 4 95:=loops_none _ _ _ _
theorem det (s:Store) (i:Int):Det (F s i):=by
 unfold F
 repeat' with_reducible first|exact det_ret _|refine det_cond _ ?_ ?_
theorem edet (a:List AV):Det (en a):=mkEntry_det (fun x:Dens A=>det x.1 x.2.1) a
theorem ground:Ground E tab:=⟨num,mixed,(tab_nil _),clone,dtab_nil,stab⟩
theorem sound:EntrySound E 95 en:=mkSound ground loops (by kernel_rfl) (fun (x:Dens A) K=>eqv  x.1 x.2.1 K)
end q158
namespace q159
abbrev A:List Ty:=[(.int .u32),(.slice (.int .i64))]
abbrev C:=(cTy (.int .u32))
abbrev T:Type:=Int->(List Int)->(Int->Prop)->Prop
noncomputable def tv (f0:q137.T):Tab:=[(155,mkEntry q137.A q137.C fun x=>f0 x.1)]
noncomputable def tab:Tab:=tv q137.F
def FV (f0:q137.T) (m:Int) (l:(List Int)) (K:Int->Prop):Prop:=
 (f0 l fun r1=>(K (iandn .u32 m r1)))
def F (m:Int) (l:(List Int)) (K:Int->Prop):Prop:=FV q137.F m l K
noncomputable def en:Entry:=mkEntry A C fun x=>F x.1 x.2.1
theorem eqv (f0:q137.T) (m:Int) (l:(List Int)) (K:Int->Prop):apure E (tv f0) (fun _=>none) 4 97 [enc (.int .u32) m,enc (.slice (.int .i64)) l] (ansK C K)=FV f0 m l K:=by kernel_rfl
theorem loops:LoopsOk E tab (fun _=>none) 4 97:=loops_none _ _ _ _
theorem det (m:Int) (l:(List Int)):Det (F m l):=by
 unfold F FV
 repeat' with_reducible first|exact det_ret _|refine det_bind (q137.det _) (fun _=>?_)
theorem edet (a:List AV):Det (en a):=mkEntry_det (fun x:Dens A=>det x.1 x.2.1) a
theorem ground:Ground E tab:=⟨num,mixed,(tab_cons q137.sound (tab_nil _)),clone,(dtab_cons q137.edet dtab_nil),stab⟩
theorem sound:EntrySound E 97 en:=mkSound ground loops (by kernel_rfl) (fun (x:Dens A) K=>eqv q137.F x.1 x.2.1 K)
end q159
namespace q160
abbrev A:List Ty:=[(.st 1),(.int .u32)]
abbrev C:=(cTy .bool)
abbrev T:Type:=Disk->Int->(Bool->Prop)->Prop
noncomputable def tv (f0:q135.T):Tab:=[(216,mkEntry q135.A q135.C fun x=>f0 x.1 x.2.1)]
noncomputable def tab:Tab:=tv q135.F
def FV (f0:q135.T) (d:Disk) (m:Int) (K:Bool->Prop):Prop:=
 (f0 m (IntKind.i64.wrap ((d.sure.length:Int) - 2)) fun r1=>(K r1))
def F (d:Disk) (m:Int) (K:Bool->Prop):Prop:=FV q135.F d m K
noncomputable def en:Entry:=mkEntry A C fun x=>F x.1 x.2.1
theorem eqv (f0:q135.T) (d:Disk) (m:Int) (K:Bool->Prop):apure E (tv f0) (fun _=>none) 4 156 [enc (.st 1) d,enc (.int .u32) m] (ansK C K)=FV f0 d m K:=by kernel_rfl
theorem loops:LoopsOk E tab (fun _=>none) 4 156:=loops_none _ _ _ _
theorem det (d:Disk) (m:Int):Det (F d m):=by
 unfold F FV
 repeat' with_reducible first|exact det_ret _|refine det_bind (q135.det _ _) (fun _=>?_)
theorem edet (a:List AV):Det (en a):=mkEntry_det (fun x:Dens A=>det x.1 x.2.1) a
theorem ground:Ground E tab:=⟨num,mixed,(tab_cons q135.sound (tab_nil _)),clone,(dtab_cons q135.edet dtab_nil),stab⟩
theorem sound:EntrySound E 156 en:=mkSound ground loops (by kernel_rfl) (fun (x:Dens A) K=>eqv q135.F x.1 x.2.1 K)
end q160
namespace q161
abbrev A:List Ty:=[(.st 1),(.int .u32)]
abbrev C:=(cTwo (.st 1) (.int .i64))
abbrev T:Type:=Disk->Int->((Disk×Int)->Prop)->Prop
noncomputable def tv (f0:q160.T) (f1:q143.T) (f2:q146.T) (f3:q152.T):Tab:=[(156,mkEntry q160.A q160.C fun x=>f0 x.1 x.2.1),(158,mkEntry q143.A q143.C fun x=>f1 x.1),(157,mkEntry q146.A q146.C fun x=>f2 x.1),(153,mkEntry q152.A q152.C fun x=>f3 x.1 x.2.1 x.2.2.1)]
noncomputable def tab:Tab:=tv q160.F q143.F q146.F q152.F
def FV (f0:q160.T) (f1:q143.T) (f2:q146.T) (f3:q152.T) (d:Disk) (m:Int) (K:(Disk×Int)->Prop):Prop:=
 (f0 d m fun r1=>(bif(!r1)then(K (d,1))else(f1 m fun r2=>(f2 r2 fun r3=>(f3 d 1 r3 fun r4=>(K (r4.1,r4.2)))))))
def F (d:Disk) (m:Int) (K:(Disk×Int)->Prop):Prop:=FV q160.F q143.F q146.F q152.F d m K
noncomputable def en:Entry:=mkEntry A C fun x=>F x.1 x.2.1
theorem eqv (f0:q160.T) (f1:q143.T) (f2:q146.T) (f3:q152.T) (d:Disk) (m:Int) (K:(Disk×Int)->Prop):apure E (tv f0 f1 f2 f3) (fun _=>none) 4 98 [enc (.st 1) d,enc (.int .u32) m] (ansK C K)=FV f0 f1 f2 f3 d m K:=by kernel_rfl
theorem loops:LoopsOk E tab (fun _=>none) 4 98:=loops_none _ _ _ _
theorem det (d:Disk) (m:Int):Det (F d m):=by
 unfold F FV
 repeat' with_reducible first|exact det_ret _|refine det_cond _ ?_ ?_|refine det_bind (q160.det _ _) (fun _=>?_)|refine det_bind (q143.det _) (fun _=>?_)|refine det_bind (q146.det _) (fun _=>?_)|refine det_bind (q152.det _ _ _) (fun _=>?_)
theorem edet (a:List AV):Det (en a):=mkEntry_det (fun x:Dens A=>det x.1 x.2.1) a
theorem ground:Ground E tab:=⟨num,mixed,(tab_cons q160.sound (tab_cons q143.sound (tab_cons q146.sound (tab_cons q152.sound (tab_nil _))))),clone,(dtab_cons q160.edet (dtab_cons q143.edet (dtab_cons q146.edet (dtab_cons q152.edet dtab_nil)))),stab⟩
theorem sound:EntrySound E 98 en:=mkSound ground loops (by kernel_rfl) (fun (x:Dens A) K=>eqv q160.F q143.F q146.F q152.F x.1 x.2.1 K)
end q161
namespace q162
abbrev A:List Ty:=[(.st 8),(.int .i64)]
abbrev C:=(cTwo (.st 8) (.int .i64))
abbrev T:Type:=Store->Int->((Store×Int)->Prop)->Prop
noncomputable def tv (f0:q158.T) (f1:q159.T) (f2:q161.T):Tab:=[(95,mkEntry q158.A q158.C fun x=>f0 x.1 x.2.1),(97,mkEntry q159.A q159.C fun x=>f1 x.1 x.2.1),(98,mkEntry q161.A q161.C fun x=>f2 x.1 x.2.1)]
noncomputable def tab:Tab:=tv q158.F q159.F q161.F
def FV (f0:q158.T) (f1:q159.T) (f2:q161.T) (s:Store) (i:Int) (K:(Store×Int)->Prop):Prop:=
 (f0 s i fun r1=>(bif(!r1)then(K (s,4))else(f1 s.mask ([i]:List Int) fun r2=>(bif(r2==s.mask)then(K (s,0))else(f2 s.disk r2 fun r3=>(bif(r3.2==0)then(K ((⟨r3.1,s.sup,r2⟩:Store),r3.2))else(K ((⟨r3.1,s.sup,s.mask⟩:Store),r3.2))))))))
def F (s:Store) (i:Int) (K:(Store×Int)->Prop):Prop:=FV q158.F q159.F q161.F s i K
noncomputable def en:Entry:=mkEntry A C fun x=>F x.1 x.2.1
theorem eqv (f0:q158.T) (f1:q159.T) (f2:q161.T) (s:Store) (i:Int) (K:(Store×Int)->Prop):apure E (tv f0 f1 f2) (fun _=>none) 4 46 [enc (.st 8) s,enc (.int .i64) i] (ansK C K)=FV f0 f1 f2 s i K:=by kernel_rfl
theorem loops:LoopsOk E tab (fun _=>none) 4 46:=loops_none _ _ _ _
theorem det (s:Store) (i:Int):Det (F s i):=by
 unfold F FV
 repeat' with_reducible first|exact det_ret _|refine det_cond _ ?_ ?_|refine det_bind (q158.det _ _) (fun _=>?_)|refine det_bind (q159.det _ _) (fun _=>?_)|refine det_bind (q161.det _ _) (fun _=>?_)
theorem edet (a:List AV):Det (en a):=mkEntry_det (fun x:Dens A=>det x.1 x.2.1) a
theorem ground:Ground E tab:=⟨num,mixed,(tab_cons q158.sound (tab_cons q159.sound (tab_cons q161.sound (tab_nil _)))),clone,(dtab_cons q158.edet (dtab_cons q159.edet (dtab_cons q161.edet dtab_nil))),stab⟩
theorem sound:EntrySound E 46 en:=mkSound ground loops (by kernel_rfl) (fun (x:Dens A) K=>eqv q158.F q159.F q161.F x.1 x.2.1 K)
end q162
namespace q163
abbrev A:List Ty:=[(.int .u32),(.int .i64)]
abbrev C:=(cTwo (.int .i64) .bool)
abbrev T:Type:=Int->Int->((Int×Bool)->Prop)->Prop
noncomputable def tv (f0:math_bits_TrailingZeros32.T):Tab:=[(159,mkEntry math_bits_TrailingZeros32.A math_bits_TrailingZeros32.C fun x=>f0 x.1)]
noncomputable def tab:Tab:=tv math_bits_TrailingZeros32.F
def FV (f0:math_bits_TrailingZeros32.T) (m:Int) (from_1:Int) (K:(Int×Bool)->Prop):Prop:=
 (bif(decide (from_1≥32))then(K (0,false))else(bif(decide (0≤(maxI2 from_1 0)))then(bif(decide (0≤(maxI2 from_1 0)))then(bif((ishl .u32 (ishr .u32 m (maxI2 from_1 0)) (maxI2 from_1 0))==0)then(K (0,false))else(f0 (ishl .u32 (ishr .u32 m (maxI2 from_1 0)) (maxI2 from_1 0)) fun r1=>(K (r1,true))))else False)else False))
def F (m:Int) (from_1:Int) (K:(Int×Bool)->Prop):Prop:=FV math_bits_TrailingZeros32.F m from_1 K
noncomputable def en:Entry:=mkEntry A C fun x=>F x.1 x.2.1
theorem eqv (f0:math_bits_TrailingZeros32.T) (m:Int) (from_1:Int) (K:(Int×Bool)->Prop):apure E (tv f0) (fun _=>none) 4 100 [enc (.int .u32) m,enc (.int .i64) from_1] (ansK C K)=FV f0 m from_1 K:=by kernel_rfl
theorem loops:LoopsOk E tab (fun _=>none) 4 100:=loops_none _ _ _ _
theorem det (m:Int) (from_1:Int):Det (F m from_1):=by
 unfold F FV
 repeat' with_reducible first|exact det_ret _|exact det_false|refine det_cond _ ?_ ?_|refine det_bind (math_bits_TrailingZeros32.det _) (fun _=>?_)
theorem edet (a:List AV):Det (en a):=mkEntry_det (fun x:Dens A=>det x.1 x.2.1) a
theorem ground:Ground E tab:=⟨num,mixed,(tab_cons math_bits_TrailingZeros32.sound (tab_nil _)),clone,(dtab_cons math_bits_TrailingZeros32.edet dtab_nil),stab⟩
theorem sound:EntrySound E 100 en:=mkSound ground loops (by kernel_rfl) (fun (x:Dens A) K=>eqv math_bits_TrailingZeros32.F x.1 x.2.1 K)
end q163
namespace q164
abbrev A:List Ty:=[(.st 2)]
abbrev C:=(cTy (.st 2))
abbrev T:Type:=Vec->(Vec->Prop)->Prop
noncomputable def tab:Tab:=[]
def F (v:Vec) (K:Vec->Prop):Prop:=
 (bif(v.bitmap != 0)then(K (⟨v.current,0,v.bitmap,v.old0⟩:Vec))else(K v))
noncomputable def en:Entry:=mkEntry A C fun x=>F x.1
theorem eqv (v:Vec) (K:Vec->Prop):apure E tab (fun _=>none) 4 84 [enc (.st 2) v] (ansK C K)=F v K:=by kernel_rfl
theorem loops:LoopsOk E tab (fun _=>none) 4 84:=loops_none _ _ _ _
theorem det (v:Vec):Det (F v):=by
 unfold F
 repeat' with_reducible first|exact det_ret _|refine det_cond _ ?_ ?_
theorem edet (a:List AV):Det (en a):=mkEntry_det (fun x:Dens A=>det x.1) a
theorem ground:Ground E tab:=⟨num,mixed,(tab_nil _),clone,dtab_nil,stab⟩
theorem sound:EntrySound E 84 en:=mkSound ground loops (by kernel_rfl) (fun (x:Dens A) K=>eqv  x.1 K)
end q164
namespace q165
abbrev A:List Ty:=[(.st 3)]
abbrev C:=(cTy .bool)
abbrev T:Type:=Super->(Bool->Prop)->Prop
noncomputable def tv (f0:q134.T) (f1:q132.T):Tab:=[(119,mkEntry q134.A q134.C fun x=>f0 x.1),(259,mkEntry q132.A q132.C fun x=>f1 x.1)]
noncomputable def tab:Tab:=tv q134.F q132.F
def FV (f0:q134.T) (f1:q132.T) (s:Super) (K:Bool->Prop):Prop:=
 (f0 s.blocks fun r1=>(bif(r1 != 0)then(f1 s.vector fun r2=>(K r2))else(K false)))
def F (s:Super) (K:Bool->Prop):Prop:=FV q134.F q132.F s K
noncomputable def en:Entry:=mkEntry A C fun x=>F x.1
theorem eqv (f0:q134.T) (f1:q132.T) (s:Super) (K:Bool->Prop):apure E (tv f0 f1) (fun _=>none) 4 256 [enc (.st 3) s] (ansK C K)=FV f0 f1 s K:=by kernel_rfl
theorem loops:LoopsOk E tab (fun _=>none) 4 256:=loops_none _ _ _ _
theorem det (s:Super):Det (F s):=by
 unfold F FV
 repeat' with_reducible first|exact det_ret _|refine det_cond _ ?_ ?_|refine det_bind (q134.det _) (fun _=>?_)|refine det_bind (q132.det _) (fun _=>?_)
theorem edet (a:List AV):Det (en a):=mkEntry_det (fun x:Dens A=>det x.1) a
theorem ground:Ground E tab:=⟨num,mixed,(tab_cons q134.sound (tab_cons q132.sound (tab_nil _))),clone,(dtab_cons q134.edet (dtab_cons q132.edet dtab_nil)),stab⟩
theorem sound:EntrySound E 256 en:=mkSound ground loops (by kernel_rfl) (fun (x:Dens A) K=>eqv q134.F q132.F x.1 K)
end q165
namespace q166
abbrev A:List Ty:=[(.st 3)]
abbrev C:=(cTwo .str (.int .i64))
abbrev T:Type:=Super->((Str×Int)->Prop)->Prop
noncomputable def tv (f0:q165.T) (f1:q142.T) (f2:q141.T) (f3:q146.T):Tab:=[(256,mkEntry q165.A q165.C fun x=>f0 x.1),(221,mkEntry q142.A q142.C fun x=>f1 x.1),(166,mkEntry q141.A q141.C fun x=>f2 x.1),(157,mkEntry q146.A q146.C fun x=>f3 x.1)]
noncomputable def tab:Tab:=tv q165.F q142.F q141.F q146.F
structure R where
def cR (_:R):St:={ fr:=fun _=>.top,hs:=hs0 }
def kR:Keep:={ ks:=[],bs:=[],hn:=0 }
structure L0 where
 b0:Str
 t25:Int
 m0:Super
def c0 (x:L0):St:={ fr:=lookL .top [(4,(.str x.b0)),(24,(.agg [(.ptr 0 1),(.ptr 0 2),(.ptr 0 3),(.ptr 0 4)])),(25,(.int .i64 x.t25))],hs:={ hp:=lookL .dead [(0,(.cells [(.int .i64 x.m0.blocks),(.int .u64 x.m0.vector.current),(.int .u64 x.m0.vector.bitmap),(.int .u64 x.m0.vector.old0),(.int .u64 x.m0.vector.old1),(.bool x.m0.inc),(.bool x.m0.pri),(.bool x.m0.dis)]))],hn:=2 } }
def kp0:Keep:={ ks:=[(4,none),(24,none),(25,none)],bs:=[0],hn:=2,ts:=[(0,3)] }
def p0 (st:St) (K:L0->Prop):Prop:=gStr (st.fr 4) fun a1=>gAgg (st.fr 24) fun c2=>gCons c2 fun c3 c4=>gPtr 0 1 c3 <| gCons c4 fun c5 c6=>gPtr 0 2 c5 <| gCons c6 fun c7 c8=>gPtr 0 3 c7 <| gCons c8 fun c9 c10=>gPtr 0 4 c9 <| gNil c10 <| gInt .i64 (st.fr 25) fun a11=>gBlkS 3 (st.hs.hp 0) fun a12=>K ⟨a1,a11,a12⟩
set_option maxHeartbeats 4000000 in
theorem p0_ok (st:St) (K:L0->Prop) (h:p0 st K):∃ x,keepSt kp0 st=c0 x∧K x:=by
 obtain ⟨a1,h0,h⟩:=gStr_elim h
 obtain ⟨c2,h1,h⟩:=gAgg_elim h
 obtain ⟨c3,c4,h2,h⟩:=gCons_elim h
 obtain ⟨h3,h⟩:=gPtr_elim h
 obtain ⟨c5,c6,h4,h⟩:=gCons_elim h
 obtain ⟨h5,h⟩:=gPtr_elim h
 obtain ⟨c7,c8,h6,h⟩:=gCons_elim h
 obtain ⟨h7,h⟩:=gPtr_elim h
 obtain ⟨c9,c10,h8,h⟩:=gCons_elim h
 obtain ⟨h9,h⟩:=gPtr_elim h
 obtain ⟨h10,h⟩:=gNil_elim h
 obtain ⟨a11,h11,h⟩:=gInt_elim h
 obtain ⟨z12,a12,h12,y12,h⟩:=gBlkS_elim h
 have q12:∀ ok,keptB kp0 ok 0 (.cells z12)=.cells (encS 3 a12):=fun _=>y12
 simp only [kp0] at q12
 refine⟨_,?_,h⟩
 subst h2
 subst h3
 subst h4
 subst h5
 subst h6
 subst h7
 subst h8
 subst h9
 subst h10
 simp only [keepSt,kp0,List.map,h0,h1,h11,h12,q12]
 rfl
def b0V (f0:q165.T) (f1:q142.T) (f2:q141.T) (f3:q146.T) (rec kx:L0->Prop) (kr:R->Prop) (x:L0):Prop:=
 (bif(decide (x.t25 < 4))then(bif(x.t25==0)then(f2 x.m0.vector.current fun r6=>(bif(fits (x.b0.length+r6.length))then(rec ⟨(x.b0++r6),(IntKind.i64.wrap (x.t25+1)),x.m0⟩)else False))else(bif(x.t25==1)then(f2 x.m0.vector.bitmap fun r5=>(bif(fits (x.b0.length+r5.length))then(rec ⟨(x.b0++r5),(IntKind.i64.wrap (x.t25+1)),x.m0⟩)else False))else(bif(x.t25==2)then(f2 x.m0.vector.old0 fun r4=>(bif(fits (x.b0.length+r4.length))then(rec ⟨(x.b0++r4),(IntKind.i64.wrap (x.t25+1)),x.m0⟩)else False))else(bif(x.t25==3)then(f2 x.m0.vector.old1 fun r3=>(bif(fits (x.b0.length+r3.length))then(rec ⟨(x.b0++r3),(IntKind.i64.wrap (x.t25+1)),x.m0⟩)else False))else False))))else(kx ⟨x.b0,x.t25,x.m0⟩))
def ltV (f0:q165.T) (f1:q142.T) (f2:q141.T) (f3:q146.T):Nat->Option LSpec
 | 0=>some (mkLoop 0 kp0 kR p0 c0 cR (b0V f0 f1 f2 f3))
 | _=>none
def lt:Nat->Option LSpec:=ltV q165.F q142.F q141.F q146.F
def FV (f0:q165.T) (f1:q142.T) (f2:q141.T) (f3:q146.T) (s:Super) (K:(Str×Int)->Prop):Prop:=
 (f0 s fun r1=>(bif(!r1)then(K (([]:Str),1))else(f1 ([s.inc,s.pri,s.dis]:List Bool) fun r2=>(bif(fits (([71,77,1]:Str).length+(bytesOfInts ([(IntKind.u8.wrap s.blocks),r2]:List Int)).length))then(∃ n,loopB (b0V f0 f1 f2 f3) n (fun x7=>(f3 x7.b0 fun r9=>(K (r9,0)))) (fun _=>False) ⟨(([71,77,1]:Str)++(bytesOfInts ([(IntKind.u8.wrap s.blocks),r2]:List Int))),0,s⟩)else False))))
def F (s:Super) (K:(Str×Int)->Prop):Prop:=FV q165.F q142.F q141.F q146.F s K
noncomputable def en:Entry:=mkEntry A C fun x=>F x.1
theorem eqv (f0:q165.T) (f1:q142.T) (f2:q141.T) (f3:q146.T) (s:Super) (K:(Str×Int)->Prop):apure E (tv f0 f1 f2 f3) (ltV f0 f1 f2 f3) 4 205 [enc (.st 3) s] (ansK C K)=FV f0 f1 f2 f3 s K:=by kernel_rfl
theorem l0v (f0:q165.T) (f1:q142.T) (f2:q141.T) (f3:q146.T) (R:St->Prop) (Kx:Nat->St->Prop) (Kr:St->Prop) (x:L0):acode E (tv f0 f1 f2 f3) (afun E (tv f0 f1 f2 f3) 4) 37 (ltV f0 f1 f2 f3) ((loopsIn E.P 205).getD 0 (0,.skip)).2 0 (fun s=>R (keepSt kp0 s)) (fun j s=>Kx j (keepSt kp0 s)) (fun s=>Kr (keepSt kR s)) (c0 x)=b0V f0 f1 f2 f3 (fun x=>R (c0 x)) (fun x=>Kx 0 (c0 x)) (fun r=>Kr (cR r)) x:=by kernel_rfl
theorem l0_ok:LSound E tab (afun E tab 4) 37 lt 0 ((loopsIn E.P 205).getD 0 (0,.skip)).2 (mkLoop 0 kp0 kR p0 c0 cR (b0V q165.F q142.F q141.F q146.F)):=mkLoop_sound (by decide) (by decide) p0_ok (fun R Kx Kr x=>l0v q165.F q142.F q141.F q146.F R Kx Kr x)
theorem loops:LoopsOk E tab lt 4 205:=loops_of (nt:=37) (ids:=[0]) (by kernel_rfl) (by kernel_rfl) (by
 intro k i hk l hl
 match k,hk with
 | 0,hk=>cases hk;cases hl;exact l0_ok
 | _+1,hk=>exact absurd hk (by simp))
theorem det (s:Super):Det (F s):=by
 unfold F FV
 repeat' with_reducible first|exact det_ret _|exact det_false|refine det_cond _ ?_ ?_|refine det_bind (q165.det _) (fun _=>?_)|refine det_bind (q142.det _) (fun _=>?_)|refine det_bind (q141.det _) (fun _=>?_)|refine det_bind (q146.det _) (fun _=>?_)|refine det_loop (fun _=>?_) (fun _=>?_) (fun _=>?_) _ | unfold b0V
theorem edet (a:List AV):Det (en a):=mkEntry_det (fun x:Dens A=>det x.1) a
theorem ground:Ground E tab:=⟨num,mixed,(tab_cons q165.sound (tab_cons q142.sound (tab_cons q141.sound (tab_cons q146.sound (tab_nil _))))),clone,(dtab_cons q165.edet (dtab_cons q142.edet (dtab_cons q141.edet (dtab_cons q146.edet dtab_nil)))),stab⟩
theorem sound:EntrySound E 205 en:=mkSound ground loops (by kernel_rfl) (fun (x:Dens A) K=>eqv q165.F q142.F q141.F q146.F x.1 K)
end q166
namespace q167
abbrev A:List Ty:=[(.st 1),(.st 3)]
abbrev C:=(cTy .bool)
abbrev T:Type:=Disk->Super->(Bool->Prop)->Prop
noncomputable def tab:Tab:=[]
def F (d:Disk) (s:Super) (K:Bool->Prop):Prop:=
 (K (s.blocks==(IntKind.i64.wrap ((d.sure.length:Int) - 2))))
noncomputable def en:Entry:=mkEntry A C fun x=>F x.1 x.2.1
theorem eqv (d:Disk) (s:Super) (K:Bool->Prop):apure E tab (fun _=>none) 4 206 [enc (.st 1) d,enc (.st 3) s] (ansK C K)=F d s K:=by kernel_rfl
theorem loops:LoopsOk E tab (fun _=>none) 4 206:=loops_none _ _ _ _
theorem det (d:Disk) (s:Super):Det (F d s):=by
 unfold F
 repeat' with_reducible first|exact det_ret _
theorem edet (a:List AV):Det (en a):=mkEntry_det (fun x:Dens A=>det x.1 x.2.1) a
theorem ground:Ground E tab:=⟨num,mixed,(tab_nil _),clone,dtab_nil,stab⟩
theorem sound:EntrySound E 206 en:=mkSound ground loops (by kernel_rfl) (fun (x:Dens A) K=>eqv  x.1 x.2.1 K)
end q167
namespace q168
abbrev A:List Ty:=[(.st 1),(.st 3)]
abbrev C:=(cTwo (.st 1) (.int .i64))
abbrev T:Type:=Disk->Super->((Disk×Int)->Prop)->Prop
noncomputable def tv (f0:q166.T) (f1:q167.T) (f2:q152.T) (f3:q154.T):Tab:=[(205,mkEntry q166.A q166.C fun x=>f0 x.1),(206,mkEntry q167.A q167.C fun x=>f1 x.1 x.2.1),(153,mkEntry q152.A q152.C fun x=>f2 x.1 x.2.1 x.2.2.1),(154,mkEntry q154.A q154.C fun x=>f3 x.1)]
noncomputable def tab:Tab:=tv q166.F q167.F q152.F q154.F
def FV (f0:q166.T) (f1:q167.T) (f2:q152.T) (f3:q154.T) (d:Disk) (s:Super) (K:(Disk×Int)->Prop):Prop:=
 (f0 s fun r1=>(bif(r1.2 != 0)then(K (d,1))else(f1 d s fun r2=>(bif(!r2)then(K (d,1))else(f2 d 0 r1.1 fun r3=>(bif(r3.2 != 0)then(K (r3.1,r3.2))else(f3 r3.1 fun r4=>(K (r4.1,r4.2)))))))))
def F (d:Disk) (s:Super) (K:(Disk×Int)->Prop):Prop:=FV q166.F q167.F q152.F q154.F d s K
noncomputable def en:Entry:=mkEntry A C fun x=>F x.1 x.2.1
theorem eqv (f0:q166.T) (f1:q167.T) (f2:q152.T) (f3:q154.T) (d:Disk) (s:Super) (K:(Disk×Int)->Prop):apure E (tv f0 f1 f2 f3) (fun _=>none) 4 143 [enc (.st 1) d,enc (.st 3) s] (ansK C K)=FV f0 f1 f2 f3 d s K:=by kernel_rfl
theorem loops:LoopsOk E tab (fun _=>none) 4 143:=loops_none _ _ _ _
theorem det (d:Disk) (s:Super):Det (F d s):=by
 unfold F FV
 repeat' with_reducible first|exact det_ret _|refine det_cond _ ?_ ?_|refine det_bind (q166.det _) (fun _=>?_)|refine det_bind (q167.det _ _) (fun _=>?_)|refine det_bind (q152.det _ _ _) (fun _=>?_)|refine det_bind (q154.det _) (fun _=>?_)
theorem edet (a:List AV):Det (en a):=mkEntry_det (fun x:Dens A=>det x.1 x.2.1) a
theorem ground:Ground E tab:=⟨num,mixed,(tab_cons q166.sound (tab_cons q167.sound (tab_cons q152.sound (tab_cons q154.sound (tab_nil _))))),clone,(dtab_cons q166.edet (dtab_cons q167.edet (dtab_cons q152.edet (dtab_cons q154.edet dtab_nil)))),stab⟩
theorem sound:EntrySound E 143 en:=mkSound ground loops (by kernel_rfl) (fun (x:Dens A) K=>eqv q166.F q167.F q152.F q154.F x.1 x.2.1 K)
end q168
namespace q169
abbrev A:List Ty:=[(.st 8),(.st 3)]
abbrev C:=(cTwo (.st 8) (.int .i64))
abbrev T:Type:=Store->Super->((Store×Int)->Prop)->Prop
noncomputable def tv (f0:q168.T):Tab:=[(143,mkEntry q168.A q168.C fun x=>f0 x.1 x.2.1)]
noncomputable def tab:Tab:=tv q168.F
def FV (f0:q168.T) (s:Store) (b_1:Super) (K:(Store×Int)->Prop):Prop:=
 (bif((b_1.blocks==s.sup.blocks)&&(((b_1.vector.current==s.sup.vector.current)&&((b_1.vector.bitmap==s.sup.vector.bitmap)&&(((b_1.vector.old0==s.sup.vector.old0)&&((b_1.vector.old1==s.sup.vector.old1)&&true))&&true)))&&((b_1.inc==s.sup.inc)&&((b_1.pri==s.sup.pri)&&((b_1.dis==s.sup.dis)&&true)))))then(K (s,0))else(f0 s.disk b_1 fun r1=>(bif(r1.2==0)then(K ((⟨r1.1,b_1,s.mask⟩:Store),r1.2))else(K ((⟨r1.1,s.sup,s.mask⟩:Store),r1.2)))))
def F (s:Store) (b_1:Super) (K:(Store×Int)->Prop):Prop:=FV q168.F s b_1 K
noncomputable def en:Entry:=mkEntry A C fun x=>F x.1 x.2.1
theorem eqv (f0:q168.T) (s:Store) (b_1:Super) (K:(Store×Int)->Prop):apure E (tv f0) (fun _=>none) 4 85 [enc (.st 8) s,enc (.st 3) b_1] (ansK C K)=FV f0 s b_1 K:=by kernel_rfl
theorem loops:LoopsOk E tab (fun _=>none) 4 85:=loops_none _ _ _ _
theorem det (s:Store) (b_1:Super):Det (F s b_1):=by
 unfold F FV
 repeat' with_reducible first|exact det_ret _|refine det_cond _ ?_ ?_|refine det_bind (q168.det _ _) (fun _=>?_)
theorem edet (a:List AV):Det (en a):=mkEntry_det (fun x:Dens A=>det x.1 x.2.1) a
theorem ground:Ground E tab:=⟨num,mixed,(tab_cons q168.sound (tab_nil _)),clone,(dtab_cons q168.edet dtab_nil),stab⟩
theorem sound:EntrySound E 85 en:=mkSound ground loops (by kernel_rfl) (fun (x:Dens A) K=>eqv q168.F x.1 x.2.1 K)
end q169
namespace q170
abbrev A:List Ty:=[(.st 13),(.int .i64),.str]
abbrev C:=(cTwo (.st 13) (.slice (.st 11)))
abbrev T:Type:=Node->Int->Str->((Node×(List Outp))->Prop)->Prop
noncomputable def tv (f0:q156.T) (f1:q157.T) (f2:q162.T) (f3:q147.T) (f4:q163.T) (f5:q164.T) (f6:q169.T):Tab:=[(45,mkEntry q156.A q156.C fun x=>f0 x.1 x.2.1 x.2.2.1),(93,mkEntry q157.A q157.C fun x=>f1 x.1),(46,mkEntry q162.A q162.C fun x=>f2 x.1 x.2.1),(106,mkEntry q147.A q147.C fun x=>f3 x.1),(100,mkEntry q163.A q163.C fun x=>f4 x.1 x.2.1),(84,mkEntry q164.A q164.C fun x=>f5 x.1),(85,mkEntry q169.A q169.C fun x=>f6 x.1 x.2.1)]
noncomputable def tab:Tab:=tv q156.F q157.F q162.F q147.F q163.F q164.F q169.F
def FV (f0:q156.T) (f1:q157.T) (f2:q162.T) (f3:q147.T) (f4:q163.T) (f5:q164.T) (f6:q169.T) (n_0:Node) (block:Int) (data:Str) (K:(Node×(List Outp))->Prop):Prop:=
 (bif(n_0.wanted != (IntKind.i64.wrap (block+1)))then(K (n_0,([]:List Outp)))else(f0 n_0.store block data fun r1=>(bif(r1.2 != 0)then(f1 (⟨n_0.id,n_0.up,r1.1,n_0.primary,n_0.state,n_0.session,n_0.peer,n_0.peerPri,n_0.req,n_0.asking,n_0.askId,n_0.wanted,n_0.minted,n_0.draws,n_0.mints⟩:Node) fun r2=>(bif(!(r1.2==0))then(K (r2,([]:List Outp)))else(f2 r2.store block fun r3=>(bif(r3.2 != 0)then(f1 (⟨r2.id,r2.up,r3.1,r2.primary,r2.state,r2.session,r2.peer,r2.peerPri,r2.req,r2.asking,r2.askId,r2.wanted,r2.minted,r2.draws,r2.mints⟩:Node) fun r4=>(bif(!(r3.2==0))then(K (r4,([]:List Outp)))else(f3 (⟨7,r4.session,(⟨0,(⟨0,0,0,0⟩:Vec),false,false,false,false,0⟩:Hello),block,([]:Str)⟩:Packet) fun r5=>(bif(decide (([(⟨1,r4.id,0,0,r5.1⟩:Outp)]:List Outp).length * 48≤room))then(bif(!r4.store.sup.inc)then(K ((⟨r4.id,r4.up,r4.store,r4.primary,r4.state,r4.session,r4.peer,r4.peerPri,r4.req,r4.asking,r4.askId,0,r4.minted,r4.draws,r4.mints⟩:Node),([(⟨1,r4.id,0,0,r5.1⟩:Outp)]:List Outp)))else(f4 r4.store.mask 0 fun r6=>(bif r6.2 then(f3 (⟨5,r4.session,(⟨0,(⟨0,0,0,0⟩:Vec),false,false,false,false,0⟩:Hello),r6.1,([]:Str)⟩:Packet) fun r7=>(bif(decide ((([(⟨1,r4.id,0,0,r5.1⟩:Outp)]:List Outp).length+([(⟨1,r4.id,0,0,r7.1⟩:Outp)]:List Outp).length) * 48≤room))then(K ((⟨r4.id,r4.up,r4.store,r4.primary,r4.state,r4.session,r4.peer,r4.peerPri,r4.req,r4.asking,r4.askId,(IntKind.i64.wrap (r6.1+1)),r4.minted,r4.draws,r4.mints⟩:Node),(([(⟨1,r4.id,0,0,r5.1⟩:Outp)]:List Outp)++([(⟨1,r4.id,0,0,r7.1⟩:Outp)]:List Outp))))else False))else(f5 r4.peer.vector fun r8=>(f6 r4.store (⟨r4.store.sup.blocks,r8,false,false,false⟩:Super) fun r9=>(bif(r9.2 != 0)then(f1 (⟨r4.id,r4.up,r9.1,r4.primary,r4.state,r4.session,r4.peer,r4.peerPri,r4.req,r4.asking,r4.askId,0,r4.minted,r4.draws,r4.mints⟩:Node) fun r10=>(bif(r9.2==0)then(f3 (⟨8,r10.session,(⟨0,(⟨0,0,0,0⟩:Vec),false,false,false,false,0⟩:Hello),0,([]:Str)⟩:Packet) fun r11=>(bif(decide ((([(⟨1,r4.id,0,0,r5.1⟩:Outp)]:List Outp).length+([(⟨1,r10.id,0,0,r11.1⟩:Outp)]:List Outp).length) * 48≤room))then(K (r10,(([(⟨1,r4.id,0,0,r5.1⟩:Outp)]:List Outp)++([(⟨1,r10.id,0,0,r11.1⟩:Outp)]:List Outp))))else False))else(K (r10,([(⟨1,r4.id,0,0,r5.1⟩:Outp)]:List Outp)))))else(bif(r9.2==0)then(f3 (⟨8,r4.session,(⟨0,(⟨0,0,0,0⟩:Vec),false,false,false,false,0⟩:Hello),0,([]:Str)⟩:Packet) fun r12=>(bif(decide ((([(⟨1,r4.id,0,0,r5.1⟩:Outp)]:List Outp).length+([(⟨1,r4.id,0,0,r12.1⟩:Outp)]:List Outp).length) * 48≤room))then(K ((⟨r4.id,r4.up,r9.1,r4.primary,r4.state,r4.session,r4.peer,r4.peerPri,r4.req,r4.asking,r4.askId,0,r4.minted,r4.draws,r4.mints⟩:Node),(([(⟨1,r4.id,0,0,r5.1⟩:Outp)]:List Outp)++([(⟨1,r4.id,0,0,r12.1⟩:Outp)]:List Outp))))else False))else(K ((⟨r4.id,r4.up,r9.1,r4.primary,r4.state,r4.session,r4.peer,r4.peerPri,r4.req,r4.asking,r4.askId,0,r4.minted,r4.draws,r4.mints⟩:Node),([(⟨1,r4.id,0,0,r5.1⟩:Outp)]:List Outp))))))))))else False))))else(bif(!(r3.2==0))then(K ((⟨r2.id,r2.up,r3.1,r2.primary,r2.state,r2.session,r2.peer,r2.peerPri,r2.req,r2.asking,r2.askId,r2.wanted,r2.minted,r2.draws,r2.mints⟩:Node),([]:List Outp)))else(f3 (⟨7,r2.session,(⟨0,(⟨0,0,0,0⟩:Vec),false,false,false,false,0⟩:Hello),block,([]:Str)⟩:Packet) fun r13=>(bif(decide (([(⟨1,r2.id,0,0,r13.1⟩:Outp)]:List Outp).length * 48≤room))then(bif(!r3.1.sup.inc)then(K ((⟨r2.id,r2.up,r3.1,r2.primary,r2.state,r2.session,r2.peer,r2.peerPri,r2.req,r2.asking,r2.askId,0,r2.minted,r2.draws,r2.mints⟩:Node),([(⟨1,r2.id,0,0,r13.1⟩:Outp)]:List Outp)))else(f4 r3.1.mask 0 fun r14=>(bif r14.2 then(f3 (⟨5,r2.session,(⟨0,(⟨0,0,0,0⟩:Vec),false,false,false,false,0⟩:Hello),r14.1,([]:Str)⟩:Packet) fun r15=>(bif(decide ((([(⟨1,r2.id,0,0,r13.1⟩:Outp)]:List Outp).length+([(⟨1,r2.id,0,0,r15.1⟩:Outp)]:List Outp).length) * 48≤room))then(K ((⟨r2.id,r2.up,r3.1,r2.primary,r2.state,r2.session,r2.peer,r2.peerPri,r2.req,r2.asking,r2.askId,(IntKind.i64.wrap (r14.1+1)),r2.minted,r2.draws,r2.mints⟩:Node),(([(⟨1,r2.id,0,0,r13.1⟩:Outp)]:List Outp)++([(⟨1,r2.id,0,0,r15.1⟩:Outp)]:List Outp))))else False))else(f5 r2.peer.vector fun r16=>(f6 r3.1 (⟨r3.1.sup.blocks,r16,false,false,false⟩:Super) fun r17=>(bif(r17.2 != 0)then(f1 (⟨r2.id,r2.up,r17.1,r2.primary,r2.state,r2.session,r2.peer,r2.peerPri,r2.req,r2.asking,r2.askId,0,r2.minted,r2.draws,r2.mints⟩:Node) fun r18=>(bif(r17.2==0)then(f3 (⟨8,r18.session,(⟨0,(⟨0,0,0,0⟩:Vec),false,false,false,false,0⟩:Hello),0,([]:Str)⟩:Packet) fun r19=>(bif(decide ((([(⟨1,r2.id,0,0,r13.1⟩:Outp)]:List Outp).length+([(⟨1,r18.id,0,0,r19.1⟩:Outp)]:List Outp).length) * 48≤room))then(K (r18,(([(⟨1,r2.id,0,0,r13.1⟩:Outp)]:List Outp)++([(⟨1,r18.id,0,0,r19.1⟩:Outp)]:List Outp))))else False))else(K (r18,([(⟨1,r2.id,0,0,r13.1⟩:Outp)]:List Outp)))))else(bif(r17.2==0)then(f3 (⟨8,r2.session,(⟨0,(⟨0,0,0,0⟩:Vec),false,false,false,false,0⟩:Hello),0,([]:Str)⟩:Packet) fun r20=>(bif(decide ((([(⟨1,r2.id,0,0,r13.1⟩:Outp)]:List Outp).length+([(⟨1,r2.id,0,0,r20.1⟩:Outp)]:List Outp).length) * 48≤room))then(K ((⟨r2.id,r2.up,r17.1,r2.primary,r2.state,r2.session,r2.peer,r2.peerPri,r2.req,r2.asking,r2.askId,0,r2.minted,r2.draws,r2.mints⟩:Node),(([(⟨1,r2.id,0,0,r13.1⟩:Outp)]:List Outp)++([(⟨1,r2.id,0,0,r20.1⟩:Outp)]:List Outp))))else False))else(K ((⟨r2.id,r2.up,r17.1,r2.primary,r2.state,r2.session,r2.peer,r2.peerPri,r2.req,r2.asking,r2.askId,0,r2.minted,r2.draws,r2.mints⟩:Node),([(⟨1,r2.id,0,0,r13.1⟩:Outp)]:List Outp))))))))))else False)))))))else(bif(!(r1.2==0))then(K ((⟨n_0.id,n_0.up,r1.1,n_0.primary,n_0.state,n_0.session,n_0.peer,n_0.peerPri,n_0.req,n_0.asking,n_0.askId,n_0.wanted,n_0.minted,n_0.draws,n_0.mints⟩:Node),([]:List Outp)))else(f2 r1.1 block fun r21=>(bif(r21.2 != 0)then(f1 (⟨n_0.id,n_0.up,r21.1,n_0.primary,n_0.state,n_0.session,n_0.peer,n_0.peerPri,n_0.req,n_0.asking,n_0.askId,n_0.wanted,n_0.minted,n_0.draws,n_0.mints⟩:Node) fun r22=>(bif(!(r21.2==0))then(K (r22,([]:List Outp)))else(f3 (⟨7,r22.session,(⟨0,(⟨0,0,0,0⟩:Vec),false,false,false,false,0⟩:Hello),block,([]:Str)⟩:Packet) fun r23=>(bif(decide (([(⟨1,r22.id,0,0,r23.1⟩:Outp)]:List Outp).length * 48≤room))then(bif(!r22.store.sup.inc)then(K ((⟨r22.id,r22.up,r22.store,r22.primary,r22.state,r22.session,r22.peer,r22.peerPri,r22.req,r22.asking,r22.askId,0,r22.minted,r22.draws,r22.mints⟩:Node),([(⟨1,r22.id,0,0,r23.1⟩:Outp)]:List Outp)))else(f4 r22.store.mask 0 fun r24=>(bif r24.2 then(f3 (⟨5,r22.session,(⟨0,(⟨0,0,0,0⟩:Vec),false,false,false,false,0⟩:Hello),r24.1,([]:Str)⟩:Packet) fun r25=>(bif(decide ((([(⟨1,r22.id,0,0,r23.1⟩:Outp)]:List Outp).length+([(⟨1,r22.id,0,0,r25.1⟩:Outp)]:List Outp).length) * 48≤room))then(K ((⟨r22.id,r22.up,r22.store,r22.primary,r22.state,r22.session,r22.peer,r22.peerPri,r22.req,r22.asking,r22.askId,(IntKind.i64.wrap (r24.1+1)),r22.minted,r22.draws,r22.mints⟩:Node),(([(⟨1,r22.id,0,0,r23.1⟩:Outp)]:List Outp)++([(⟨1,r22.id,0,0,r25.1⟩:Outp)]:List Outp))))else False))else(f5 r22.peer.vector fun r26=>(f6 r22.store (⟨r22.store.sup.blocks,r26,false,false,false⟩:Super) fun r27=>(bif(r27.2 != 0)then(f1 (⟨r22.id,r22.up,r27.1,r22.primary,r22.state,r22.session,r22.peer,r22.peerPri,r22.req,r22.asking,r22.askId,0,r22.minted,r22.draws,r22.mints⟩:Node) fun r28=>(bif(r27.2==0)then(f3 (⟨8,r28.session,(⟨0,(⟨0,0,0,0⟩:Vec),false,false,false,false,0⟩:Hello),0,([]:Str)⟩:Packet) fun r29=>(bif(decide ((([(⟨1,r22.id,0,0,r23.1⟩:Outp)]:List Outp).length+([(⟨1,r28.id,0,0,r29.1⟩:Outp)]:List Outp).length) * 48≤room))then(K (r28,(([(⟨1,r22.id,0,0,r23.1⟩:Outp)]:List Outp)++([(⟨1,r28.id,0,0,r29.1⟩:Outp)]:List Outp))))else False))else(K (r28,([(⟨1,r22.id,0,0,r23.1⟩:Outp)]:List Outp)))))else(bif(r27.2==0)then(f3 (⟨8,r22.session,(⟨0,(⟨0,0,0,0⟩:Vec),false,false,false,false,0⟩:Hello),0,([]:Str)⟩:Packet) fun r30=>(bif(decide ((([(⟨1,r22.id,0,0,r23.1⟩:Outp)]:List Outp).length+([(⟨1,r22.id,0,0,r30.1⟩:Outp)]:List Outp).length) * 48≤room))then(K ((⟨r22.id,r22.up,r27.1,r22.primary,r22.state,r22.session,r22.peer,r22.peerPri,r22.req,r22.asking,r22.askId,0,r22.minted,r22.draws,r22.mints⟩:Node),(([(⟨1,r22.id,0,0,r23.1⟩:Outp)]:List Outp)++([(⟨1,r22.id,0,0,r30.1⟩:Outp)]:List Outp))))else False))else(K ((⟨r22.id,r22.up,r27.1,r22.primary,r22.state,r22.session,r22.peer,r22.peerPri,r22.req,r22.asking,r22.askId,0,r22.minted,r22.draws,r22.mints⟩:Node),([(⟨1,r22.id,0,0,r23.1⟩:Outp)]:List Outp))))))))))else False))))else(bif(!(r21.2==0))then(K ((⟨n_0.id,n_0.up,r21.1,n_0.primary,n_0.state,n_0.session,n_0.peer,n_0.peerPri,n_0.req,n_0.asking,n_0.askId,n_0.wanted,n_0.minted,n_0.draws,n_0.mints⟩:Node),([]:List Outp)))else(f3 (⟨7,n_0.session,(⟨0,(⟨0,0,0,0⟩:Vec),false,false,false,false,0⟩:Hello),block,([]:Str)⟩:Packet) fun r31=>(bif(decide (([(⟨1,n_0.id,0,0,r31.1⟩:Outp)]:List Outp).length * 48≤room))then(bif(!r21.1.sup.inc)then(K ((⟨n_0.id,n_0.up,r21.1,n_0.primary,n_0.state,n_0.session,n_0.peer,n_0.peerPri,n_0.req,n_0.asking,n_0.askId,0,n_0.minted,n_0.draws,n_0.mints⟩:Node),([(⟨1,n_0.id,0,0,r31.1⟩:Outp)]:List Outp)))else(f4 r21.1.mask 0 fun r32=>(bif r32.2 then(f3 (⟨5,n_0.session,(⟨0,(⟨0,0,0,0⟩:Vec),false,false,false,false,0⟩:Hello),r32.1,([]:Str)⟩:Packet) fun r33=>(bif(decide ((([(⟨1,n_0.id,0,0,r31.1⟩:Outp)]:List Outp).length+([(⟨1,n_0.id,0,0,r33.1⟩:Outp)]:List Outp).length) * 48≤room))then(K ((⟨n_0.id,n_0.up,r21.1,n_0.primary,n_0.state,n_0.session,n_0.peer,n_0.peerPri,n_0.req,n_0.asking,n_0.askId,(IntKind.i64.wrap (r32.1+1)),n_0.minted,n_0.draws,n_0.mints⟩:Node),(([(⟨1,n_0.id,0,0,r31.1⟩:Outp)]:List Outp)++([(⟨1,n_0.id,0,0,r33.1⟩:Outp)]:List Outp))))else False))else(f5 n_0.peer.vector fun r34=>(f6 r21.1 (⟨r21.1.sup.blocks,r34,false,false,false⟩:Super) fun r35=>(bif(r35.2 != 0)then(f1 (⟨n_0.id,n_0.up,r35.1,n_0.primary,n_0.state,n_0.session,n_0.peer,n_0.peerPri,n_0.req,n_0.asking,n_0.askId,0,n_0.minted,n_0.draws,n_0.mints⟩:Node) fun r36=>(bif(r35.2==0)then(f3 (⟨8,r36.session,(⟨0,(⟨0,0,0,0⟩:Vec),false,false,false,false,0⟩:Hello),0,([]:Str)⟩:Packet) fun r37=>(bif(decide ((([(⟨1,n_0.id,0,0,r31.1⟩:Outp)]:List Outp).length+([(⟨1,r36.id,0,0,r37.1⟩:Outp)]:List Outp).length) * 48≤room))then(K (r36,(([(⟨1,n_0.id,0,0,r31.1⟩:Outp)]:List Outp)++([(⟨1,r36.id,0,0,r37.1⟩:Outp)]:List Outp))))else False))else(K (r36,([(⟨1,n_0.id,0,0,r31.1⟩:Outp)]:List Outp)))))else(bif(r35.2==0)then(f3 (⟨8,n_0.session,(⟨0,(⟨0,0,0,0⟩:Vec),false,false,false,false,0⟩:Hello),0,([]:Str)⟩:Packet) fun r38=>(bif(decide ((([(⟨1,n_0.id,0,0,r31.1⟩:Outp)]:List Outp).length+([(⟨1,n_0.id,0,0,r38.1⟩:Outp)]:List Outp).length) * 48≤room))then(K ((⟨n_0.id,n_0.up,r35.1,n_0.primary,n_0.state,n_0.session,n_0.peer,n_0.peerPri,n_0.req,n_0.asking,n_0.askId,0,n_0.minted,n_0.draws,n_0.mints⟩:Node),(([(⟨1,n_0.id,0,0,r31.1⟩:Outp)]:List Outp)++([(⟨1,n_0.id,0,0,r38.1⟩:Outp)]:List Outp))))else False))else(K ((⟨n_0.id,n_0.up,r35.1,n_0.primary,n_0.state,n_0.session,n_0.peer,n_0.peerPri,n_0.req,n_0.asking,n_0.askId,0,n_0.minted,n_0.draws,n_0.mints⟩:Node),([(⟨1,n_0.id,0,0,r31.1⟩:Outp)]:List Outp))))))))))else False)))))))))
def F (n_0:Node) (block:Int) (data:Str) (K:(Node×(List Outp))->Prop):Prop:=FV q156.F q157.F q162.F q147.F q163.F q164.F q169.F n_0 block data K
noncomputable def en:Entry:=mkEntry A C fun x=>F x.1 x.2.1 x.2.2.1
theorem eqv (f0:q156.T) (f1:q157.T) (f2:q162.T) (f3:q147.T) (f4:q163.T) (f5:q164.T) (f6:q169.T) (n_0:Node) (block:Int) (data:Str) (K:(Node×(List Outp))->Prop):apure E (tv f0 f1 f2 f3 f4 f5 f6) (fun _=>none) 4 14 [enc (.st 13) n_0,enc (.int .i64) block,enc .str data] (ansK C K)=FV f0 f1 f2 f3 f4 f5 f6 n_0 block data K:=by kernel_rfl
theorem loops:LoopsOk E tab (fun _=>none) 4 14:=loops_none _ _ _ _
theorem det (n_0:Node) (block:Int) (data:Str):Det (F n_0 block data):=by
 unfold F FV
 repeat' with_reducible first|exact det_ret _|exact det_false|refine det_cond _ ?_ ?_|refine det_bind (q156.det _ _ _) (fun _=>?_)|refine det_bind (q157.det _) (fun _=>?_)|refine det_bind (q162.det _ _) (fun _=>?_)|refine det_bind (q147.det _) (fun _=>?_)|refine det_bind (q163.det _ _) (fun _=>?_)|refine det_bind (q164.det _) (fun _=>?_)|refine det_bind (q169.det _ _) (fun _=>?_)
theorem edet (a:List AV):Det (en a):=mkEntry_det (fun x:Dens A=>det x.1 x.2.1 x.2.2.1) a
theorem ground:Ground E tab:=⟨num,mixed,(tab_cons q156.sound (tab_cons q157.sound (tab_cons q162.sound (tab_cons q147.sound (tab_cons q163.sound (tab_cons q164.sound (tab_cons q169.sound (tab_nil _)))))))),clone,(dtab_cons q156.edet (dtab_cons q157.edet (dtab_cons q162.edet (dtab_cons q147.edet (dtab_cons q163.edet (dtab_cons q164.edet (dtab_cons q169.edet dtab_nil))))))),stab⟩
theorem sound:EntrySound E 14 en:=mkSound ground loops (by kernel_rfl) (fun (x:Dens A) K=>eqv q156.F q157.F q162.F q147.F q163.F q164.F q169.F x.1 x.2.1 x.2.2.1 K)
end q170
namespace q171
abbrev A:List Ty:=[(.st 13),(.int .i64)]
abbrev C:=(cTwo (.st 13) (.slice (.st 11)))
abbrev T:Type:=Node->Int->((Node×(List Outp))->Prop)->Prop
noncomputable def tv (f0:q162.T) (f1:q157.T):Tab:=[(46,mkEntry q162.A q162.C fun x=>f0 x.1 x.2.1),(93,mkEntry q157.A q157.C fun x=>f1 x.1)]
noncomputable def tab:Tab:=tv q162.F q157.F
def FV (f0:q162.T) (f1:q157.T) (n_0:Node) (block:Int) (K:(Node×(List Outp))->Prop):Prop:=
 (bif(!n_0.req.on)then(f0 n_0.store block fun r1=>(bif(r1.2 != 0)then(f1 (⟨n_0.id,n_0.up,r1.1,n_0.primary,n_0.state,n_0.session,n_0.peer,n_0.peerPri,n_0.req,n_0.asking,n_0.askId,n_0.wanted,n_0.minted,n_0.draws,n_0.mints⟩:Node) fun r2=>(K (r2,([]:List Outp))))else(K ((⟨n_0.id,n_0.up,r1.1,n_0.primary,n_0.state,n_0.session,n_0.peer,n_0.peerPri,n_0.req,n_0.asking,n_0.askId,n_0.wanted,n_0.minted,n_0.draws,n_0.mints⟩:Node),([]:List Outp)))))else(bif(n_0.req.block != block)then(f0 n_0.store block fun r3=>(bif(r3.2 != 0)then(f1 (⟨n_0.id,n_0.up,r3.1,n_0.primary,n_0.state,n_0.session,n_0.peer,n_0.peerPri,n_0.req,n_0.asking,n_0.askId,n_0.wanted,n_0.minted,n_0.draws,n_0.mints⟩:Node) fun r4=>(K (r4,([]:List Outp))))else(K ((⟨n_0.id,n_0.up,r3.1,n_0.primary,n_0.state,n_0.session,n_0.peer,n_0.peerPri,n_0.req,n_0.asking,n_0.askId,n_0.wanted,n_0.minted,n_0.draws,n_0.mints⟩:Node),([]:List Outp)))))else(K (n_0,([]:List Outp)))))
def F (n_0:Node) (block:Int) (K:(Node×(List Outp))->Prop):Prop:=FV q162.F q157.F n_0 block K
noncomputable def en:Entry:=mkEntry A C fun x=>F x.1 x.2.1
theorem eqv (f0:q162.T) (f1:q157.T) (n_0:Node) (block:Int) (K:(Node×(List Outp))->Prop):apure E (tv f0 f1) (fun _=>none) 4 36 [enc (.st 13) n_0,enc (.int .i64) block] (ansK C K)=FV f0 f1 n_0 block K:=by kernel_rfl
theorem loops:LoopsOk E tab (fun _=>none) 4 36:=loops_none _ _ _ _
theorem det (n_0:Node) (block:Int):Det (F n_0 block):=by
 unfold F FV
 repeat' with_reducible first|exact det_ret _|refine det_cond _ ?_ ?_|refine det_bind (q162.det _ _) (fun _=>?_)|refine det_bind (q157.det _) (fun _=>?_)
theorem edet (a:List AV):Det (en a):=mkEntry_det (fun x:Dens A=>det x.1 x.2.1) a
theorem ground:Ground E tab:=⟨num,mixed,(tab_cons q162.sound (tab_cons q157.sound (tab_nil _))),clone,(dtab_cons q162.edet (dtab_cons q157.edet dtab_nil)),stab⟩
theorem sound:EntrySound E 36 en:=mkSound ground loops (by kernel_rfl) (fun (x:Dens A) K=>eqv q162.F q157.F x.1 x.2.1 K)
end q171
namespace q172
abbrev A:List Ty:=[(.st 13)]
abbrev C:=(cTwo (.st 13) (.slice (.st 11)))
abbrev T:Type:=Node->((Node×(List Outp))->Prop)->Prop
noncomputable def tv (f0:q164.T) (f1:q169.T) (f2:q157.T) (f3:q147.T):Tab:=[(84,mkEntry q164.A q164.C fun x=>f0 x.1),(85,mkEntry q169.A q169.C fun x=>f1 x.1 x.2.1),(93,mkEntry q157.A q157.C fun x=>f2 x.1),(106,mkEntry q147.A q147.C fun x=>f3 x.1)]
noncomputable def tab:Tab:=tv q164.F q169.F q157.F q147.F
def FV (f0:q164.T) (f1:q169.T) (f2:q157.T) (f3:q147.T) (n_0:Node) (K:(Node×(List Outp))->Prop):Prop:=
 (f0 n_0.store.sup.vector fun r1=>(f1 n_0.store (⟨n_0.store.sup.blocks,r1,n_0.store.sup.inc,n_0.primary,n_0.store.sup.dis⟩:Super) fun r2=>(bif(r2.2 != 0)then(f2 (⟨n_0.id,n_0.up,r2.1,n_0.primary,n_0.state,n_0.session,n_0.peer,n_0.peerPri,n_0.req,n_0.asking,n_0.askId,n_0.wanted,n_0.minted,n_0.draws,n_0.mints⟩:Node) fun r3=>(bif(r2.2==0)then(f3 (⟨9,r3.session,(⟨0,(⟨0,0,0,0⟩:Vec),false,false,false,false,0⟩:Hello),0,([]:Str)⟩:Packet) fun r4=>(bif(decide (([(⟨1,r3.id,0,0,r4.1⟩:Outp)]:List Outp).length * 48≤room))then(K ((⟨r3.id,r3.up,r3.store,r3.primary,2,r3.session,r3.peer,r3.peerPri,r3.req,r3.asking,r3.askId,r3.wanted,r3.minted,r3.draws,r3.mints⟩:Node),([(⟨1,r3.id,0,0,r4.1⟩:Outp)]:List Outp)))else False))else(K (r3,([]:List Outp)))))else(bif(r2.2==0)then(f3 (⟨9,n_0.session,(⟨0,(⟨0,0,0,0⟩:Vec),false,false,false,false,0⟩:Hello),0,([]:Str)⟩:Packet) fun r5=>(bif(decide (([(⟨1,n_0.id,0,0,r5.1⟩:Outp)]:List Outp).length * 48≤room))then(K ((⟨n_0.id,n_0.up,r2.1,n_0.primary,2,n_0.session,n_0.peer,n_0.peerPri,n_0.req,n_0.asking,n_0.askId,n_0.wanted,n_0.minted,n_0.draws,n_0.mints⟩:Node),([(⟨1,n_0.id,0,0,r5.1⟩:Outp)]:List Outp)))else False))else(K ((⟨n_0.id,n_0.up,r2.1,n_0.primary,n_0.state,n_0.session,n_0.peer,n_0.peerPri,n_0.req,n_0.asking,n_0.askId,n_0.wanted,n_0.minted,n_0.draws,n_0.mints⟩:Node),([]:List Outp)))))))
def F (n_0:Node) (K:(Node×(List Outp))->Prop):Prop:=FV q164.F q169.F q157.F q147.F n_0 K
noncomputable def en:Entry:=mkEntry A C fun x=>F x.1
theorem eqv (f0:q164.T) (f1:q169.T) (f2:q157.T) (f3:q147.T) (n_0:Node) (K:(Node×(List Outp))->Prop):apure E (tv f0 f1 f2 f3) (fun _=>none) 4 37 [enc (.st 13) n_0] (ansK C K)=FV f0 f1 f2 f3 n_0 K:=by kernel_rfl
theorem loops:LoopsOk E tab (fun _=>none) 4 37:=loops_none _ _ _ _
theorem det (n_0:Node):Det (F n_0):=by
 unfold F FV
 repeat' with_reducible first|exact det_ret _|exact det_false|refine det_cond _ ?_ ?_|refine det_bind (q164.det _) (fun _=>?_)|refine det_bind (q169.det _ _) (fun _=>?_)|refine det_bind (q157.det _) (fun _=>?_)|refine det_bind (q147.det _) (fun _=>?_)
theorem edet (a:List AV):Det (en a):=mkEntry_det (fun x:Dens A=>det x.1) a
theorem ground:Ground E tab:=⟨num,mixed,(tab_cons q164.sound (tab_cons q169.sound (tab_cons q157.sound (tab_cons q147.sound (tab_nil _))))),clone,(dtab_cons q164.edet (dtab_cons q169.edet (dtab_cons q157.edet (dtab_cons q147.edet dtab_nil)))),stab⟩
theorem sound:EntrySound E 37 en:=mkSound ground loops (by kernel_rfl) (fun (x:Dens A) K=>eqv q164.F q169.F q157.F q147.F x.1 K)
end q172
namespace q173
abbrev A:List Ty:=[(.st 13)]
abbrev C:=(cTy (.st 13))
abbrev T:Type:=Node->(Node->Prop)->Prop
noncomputable def tab:Tab:=[]
def F (n_0:Node) (K:Node->Prop):Prop:=
 (K (⟨n_0.id,n_0.up,n_0.store,n_0.primary,2,n_0.session,n_0.peer,n_0.peerPri,n_0.req,n_0.asking,n_0.askId,n_0.wanted,n_0.minted,n_0.draws,n_0.mints⟩:Node))
noncomputable def en:Entry:=mkEntry A C fun x=>F x.1
theorem eqv (n_0:Node) (K:Node->Prop):apure E tab (fun _=>none) 4 38 [enc (.st 13) n_0] (ansK C K)=F n_0 K:=by kernel_rfl
theorem loops:LoopsOk E tab (fun _=>none) 4 38:=loops_none _ _ _ _
theorem det (n_0:Node):Det (F n_0):=by
 unfold F
 repeat' with_reducible first|exact det_ret _
theorem edet (a:List AV):Det (en a):=mkEntry_det (fun x:Dens A=>det x.1) a
theorem ground:Ground E tab:=⟨num,mixed,(tab_nil _),clone,dtab_nil,stab⟩
theorem sound:EntrySound E 38 en:=mkSound ground loops (by kernel_rfl) (fun (x:Dens A) K=>eqv  x.1 K)
end q173
namespace q174
abbrev A:List Ty:=[(.st 13)]
abbrev C:=(cTwo (.st 13) (.slice (.st 11)))
abbrev T:Type:=Node->((Node×(List Outp))->Prop)->Prop
noncomputable def tv (f0:q163.T) (f1:q147.T) (f2:q164.T) (f3:q169.T) (f4:q157.T):Tab:=[(100,mkEntry q163.A q163.C fun x=>f0 x.1 x.2.1),(106,mkEntry q147.A q147.C fun x=>f1 x.1),(84,mkEntry q164.A q164.C fun x=>f2 x.1),(85,mkEntry q169.A q169.C fun x=>f3 x.1 x.2.1),(93,mkEntry q157.A q157.C fun x=>f4 x.1)]
noncomputable def tab:Tab:=tv q163.F q147.F q164.F q169.F q157.F
def FV (f0:q163.T) (f1:q147.T) (f2:q164.T) (f3:q169.T) (f4:q157.T) (n_0:Node) (K:(Node×(List Outp))->Prop):Prop:=
 (bif(!n_0.store.sup.inc)then(K (n_0,([]:List Outp)))else(bif(n_0.wanted != 0)then(K (n_0,([]:List Outp)))else(f0 n_0.store.mask 0 fun r1=>(bif r1.2 then(f1 (⟨5,n_0.session,(⟨0,(⟨0,0,0,0⟩:Vec),false,false,false,false,0⟩:Hello),r1.1,([]:Str)⟩:Packet) fun r2=>(bif(decide (([(⟨1,n_0.id,0,0,r2.1⟩:Outp)]:List Outp).length * 48≤room))then(K ((⟨n_0.id,n_0.up,n_0.store,n_0.primary,n_0.state,n_0.session,n_0.peer,n_0.peerPri,n_0.req,n_0.asking,n_0.askId,(IntKind.i64.wrap (r1.1+1)),n_0.minted,n_0.draws,n_0.mints⟩:Node),([(⟨1,n_0.id,0,0,r2.1⟩:Outp)]:List Outp)))else False))else(f2 n_0.peer.vector fun r3=>(f3 n_0.store (⟨n_0.store.sup.blocks,r3,false,false,false⟩:Super) fun r4=>(bif(r4.2 != 0)then(f4 (⟨n_0.id,n_0.up,r4.1,n_0.primary,n_0.state,n_0.session,n_0.peer,n_0.peerPri,n_0.req,n_0.asking,n_0.askId,n_0.wanted,n_0.minted,n_0.draws,n_0.mints⟩:Node) fun r5=>(bif(r4.2==0)then(f1 (⟨8,r5.session,(⟨0,(⟨0,0,0,0⟩:Vec),false,false,false,false,0⟩:Hello),0,([]:Str)⟩:Packet) fun r6=>(bif(decide (([(⟨1,r5.id,0,0,r6.1⟩:Outp)]:List Outp).length * 48≤room))then(K (r5,([(⟨1,r5.id,0,0,r6.1⟩:Outp)]:List Outp)))else False))else(K (r5,([]:List Outp)))))else(bif(r4.2==0)then(f1 (⟨8,n_0.session,(⟨0,(⟨0,0,0,0⟩:Vec),false,false,false,false,0⟩:Hello),0,([]:Str)⟩:Packet) fun r7=>(bif(decide (([(⟨1,n_0.id,0,0,r7.1⟩:Outp)]:List Outp).length * 48≤room))then(K ((⟨n_0.id,n_0.up,r4.1,n_0.primary,n_0.state,n_0.session,n_0.peer,n_0.peerPri,n_0.req,n_0.asking,n_0.askId,n_0.wanted,n_0.minted,n_0.draws,n_0.mints⟩:Node),([(⟨1,n_0.id,0,0,r7.1⟩:Outp)]:List Outp)))else False))else(K ((⟨n_0.id,n_0.up,r4.1,n_0.primary,n_0.state,n_0.session,n_0.peer,n_0.peerPri,n_0.req,n_0.asking,n_0.askId,n_0.wanted,n_0.minted,n_0.draws,n_0.mints⟩:Node),([]:List Outp)))))))))))
def F (n_0:Node) (K:(Node×(List Outp))->Prop):Prop:=FV q163.F q147.F q164.F q169.F q157.F n_0 K
noncomputable def en:Entry:=mkEntry A C fun x=>F x.1
theorem eqv (f0:q163.T) (f1:q147.T) (f2:q164.T) (f3:q169.T) (f4:q157.T) (n_0:Node) (K:(Node×(List Outp))->Prop):apure E (tv f0 f1 f2 f3 f4) (fun _=>none) 4 39 [enc (.st 13) n_0] (ansK C K)=FV f0 f1 f2 f3 f4 n_0 K:=by kernel_rfl
theorem loops:LoopsOk E tab (fun _=>none) 4 39:=loops_none _ _ _ _
theorem det (n_0:Node):Det (F n_0):=by
 unfold F FV
 repeat' with_reducible first|exact det_ret _|exact det_false|refine det_cond _ ?_ ?_|refine det_bind (q163.det _ _) (fun _=>?_)|refine det_bind (q147.det _) (fun _=>?_)|refine det_bind (q164.det _) (fun _=>?_)|refine det_bind (q169.det _ _) (fun _=>?_)|refine det_bind (q157.det _) (fun _=>?_)
theorem edet (a:List AV):Det (en a):=mkEntry_det (fun x:Dens A=>det x.1) a
theorem ground:Ground E tab:=⟨num,mixed,(tab_cons q163.sound (tab_cons q147.sound (tab_cons q164.sound (tab_cons q169.sound (tab_cons q157.sound (tab_nil _)))))),clone,(dtab_cons q163.edet (dtab_cons q147.edet (dtab_cons q164.edet (dtab_cons q169.edet (dtab_cons q157.edet dtab_nil))))),stab⟩
theorem sound:EntrySound E 39 en:=mkSound ground loops (by kernel_rfl) (fun (x:Dens A) K=>eqv q163.F q147.F q164.F q169.F q157.F x.1 K)
end q174
namespace q175
abbrev A:List Ty:=[(.st 1),(.st 1)]
abbrev C:=(cTy .bool)
abbrev T:Type:=Disk->Disk->(Bool->Prop)->Prop
noncomputable def tab:Tab:=[]
structure R where
 t4:Bool
def cR (x:R):St:={ fr:=lookL .top [(4,(.bool x.t4))],hs:={ hp:=lookL .dead [],hn:=2 } }
def kR:Keep:={ ks:=[(4,none)],bs:=[],hn:=2 }
structure L0 where
 i:Int
 m0:Disk
 m1:Disk
def c0 (x:L0):St:={ fr:=lookL .top [(2,(.ptr 0 0)),(3,(.ptr 1 0)),(5,(.int .i64 x.i))],hs:={ hp:=lookL .dead [(0,(.cells [(.sl .any .str x.m0.sure),(.sl .any (.st 0) x.m0.cache),(.int .i64 x.m0.fuse),(.bool x.m0.dead)])),(1,(.cells [(.sl .any .str x.m1.sure),(.sl .any (.st 0) x.m1.cache),(.int .i64 x.m1.fuse),(.bool x.m1.dead)]))],hn:=2 } }
def kp0:Keep:={ ks:=[(2,none),(3,none),(5,none)],bs:=[0,1],hn:=2,ts:=[(0,1),(1,1)] }
def p0 (st:St) (K:L0->Prop):Prop:=gPtr 0 0 (st.fr 2) <| gPtr 1 0 (st.fr 3) <| gInt .i64 (st.fr 5) fun a1=>gBlkS 1 (st.hs.hp 0) fun a2=>gBlkS 1 (st.hs.hp 1) fun a3=>K ⟨a1,a2,a3⟩
set_option maxHeartbeats 4000000 in
theorem p0_ok (st:St) (K:L0->Prop) (h:p0 st K):∃ x,keepSt kp0 st=c0 x∧K x:=by
 obtain ⟨h0,h⟩:=gPtr_elim h
 obtain ⟨h1,h⟩:=gPtr_elim h
 obtain ⟨a1,h2,h⟩:=gInt_elim h
 obtain ⟨z3,a2,h3,y3,h⟩:=gBlkS_elim h
 have q3:∀ ok,keptB kp0 ok 0 (.cells z3)=.cells (encS 1 a2):=fun _=>y3
 simp only [kp0] at q3
 obtain ⟨z4,a3,h4,y4,h⟩:=gBlkS_elim h
 have q4:∀ ok,keptB kp0 ok 1 (.cells z4)=.cells (encS 1 a3):=fun _=>y4
 simp only [kp0] at q4
 refine⟨_,?_,h⟩
 simp only [keepSt,kp0,List.map,h0,h1,h2,h3,h4,q3,q4]
 rfl
structure L2 where
 i:Int
 m0:Disk
 m1:Disk
def c2 (x:L2):St:={ fr:=lookL .top [(2,(.ptr 0 0)),(3,(.ptr 1 0)),(6,(.int .i64 x.i))],hs:={ hp:=lookL .dead [(0,(.cells [(.sl .any .str x.m0.sure),(.sl .any (.st 0) x.m0.cache),(.int .i64 x.m0.fuse),(.bool x.m0.dead)])),(1,(.cells [(.sl .any .str x.m1.sure),(.sl .any (.st 0) x.m1.cache),(.int .i64 x.m1.fuse),(.bool x.m1.dead)]))],hn:=2 } }
def kp2:Keep:={ ks:=[(2,none),(3,none),(6,none)],bs:=[0,1],hn:=2,ts:=[(0,1),(1,1)] }
def p2 (st:St) (K:L2->Prop):Prop:=gPtr 0 0 (st.fr 2) <| gPtr 1 0 (st.fr 3) <| gInt .i64 (st.fr 6) fun a1=>gBlkS 1 (st.hs.hp 0) fun a2=>gBlkS 1 (st.hs.hp 1) fun a3=>K ⟨a1,a2,a3⟩
set_option maxHeartbeats 4000000 in
theorem p2_ok (st:St) (K:L2->Prop) (h:p2 st K):∃ x,keepSt kp2 st=c2 x∧K x:=by
 obtain ⟨h0,h⟩:=gPtr_elim h
 obtain ⟨h1,h⟩:=gPtr_elim h
 obtain ⟨a1,h2,h⟩:=gInt_elim h
 obtain ⟨z3,a2,h3,y3,h⟩:=gBlkS_elim h
 have q3:∀ ok,keptB kp2 ok 0 (.cells z3)=.cells (encS 1 a2):=fun _=>y3
 simp only [kp2] at q3
 obtain ⟨z4,a3,h4,y4,h⟩:=gBlkS_elim h
 have q4:∀ ok,keptB kp2 ok 1 (.cells z4)=.cells (encS 1 a3):=fun _=>y4
 simp only [kp2] at q4
 refine⟨_,?_,h⟩
 simp only [keepSt,kp2,List.map,h0,h1,h2,h3,h4,q3,q4]
 rfl
def b0 (rec kx:L0->Prop) (kr:R->Prop) (x:L0):Prop:=
 (bif(decide (x.i < (x.m0.sure.length:Int)))then(oget (getI x.m0.sure x.i) fun v1=>(oget (getI x.m1.sure x.i) fun v2=>(bif(!(v1==v2))then(kr ⟨false⟩)else(rec ⟨(IntKind.i64.wrap (x.i+1)),x.m0,x.m1⟩))))else(kx ⟨x.i,x.m0,x.m1⟩))
def b2 (rec kx:L2->Prop) (kr:R->Prop) (x:L2):Prop:=
 (bif(decide (x.i < (x.m0.cache.length:Int)))then(oget (getI x.m0.cache x.i) fun v5=>(oget (getI x.m1.cache x.i) fun v6=>(bif(!((v5.sector==v6.sector)&&((v5.data==v6.data)&&true)))then(kr ⟨false⟩)else(rec ⟨(IntKind.i64.wrap (x.i+1)),x.m0,x.m1⟩))))else(kx ⟨x.i,x.m0,x.m1⟩))
def lt:Nat->Option LSpec
 | 0=>some (mkLoop 0 kp0 kR p0 c0 cR b0)
 | 2=>some (mkLoop 2 kp2 kR p2 c2 cR b2)
 | _=>none
def F (a:Disk) (b_1:Disk) (K:Bool->Prop):Prop:=
 (bif((a.sure.length:Int) != (b_1.sure.length:Int))then(K false)else(bif((a.cache.length:Int) != (b_1.cache.length:Int))then(K false)else(bif(a.fuse != b_1.fuse)then(K false)else(bif(!(a.dead==b_1.dead))then(K false)else(∃ n,loopB b0 n (fun x3=>(∃ n,loopB b2 n (fun x7=>(K true)) (fun r8=>(K r8.t4)) ⟨0,x3.m0,x3.m1⟩)) (fun r4=>(K r4.t4)) ⟨0,a,b_1⟩)))))
noncomputable def en:Entry:=mkEntry A C fun x=>F x.1 x.2.1
theorem eqv (a:Disk) (b_1:Disk) (K:Bool->Prop):apure E tab lt 4 109 [enc (.st 1) a,enc (.st 1) b_1] (ansK C K)=F a b_1 K:=by kernel_rfl
theorem l0v (R:St->Prop) (Kx:Nat->St->Prop) (Kr:St->Prop) (x:L0):acode E tab (afun E tab 4) 73 lt ((loopsIn E.P 109).getD 0 (0,.skip)).2 0 (fun s=>R (keepSt kp0 s)) (fun j s=>Kx j (keepSt kp0 s)) (fun s=>Kr (keepSt kR s)) (c0 x)=b0 (fun x=>R (c0 x)) (fun x=>Kx 0 (c0 x)) (fun r=>Kr (cR r)) x:=by kernel_rfl
theorem l0_ok:LSound E tab (afun E tab 4) 73 lt 0 ((loopsIn E.P 109).getD 0 (0,.skip)).2 (mkLoop 0 kp0 kR p0 c0 cR b0):=mkLoop_sound (by decide) (by decide) p0_ok (fun R Kx Kr x=>l0v  R Kx Kr x)
theorem l2v (R:St->Prop) (Kx:Nat->St->Prop) (Kr:St->Prop) (x:L2):acode E tab (afun E tab 4) 73 lt ((loopsIn E.P 109).getD 1 (0,.skip)).2 2 (fun s=>R (keepSt kp2 s)) (fun j s=>Kx j (keepSt kp2 s)) (fun s=>Kr (keepSt kR s)) (c2 x)=b2 (fun x=>R (c2 x)) (fun x=>Kx 2 (c2 x)) (fun r=>Kr (cR r)) x:=by kernel_rfl
theorem l2_ok:LSound E tab (afun E tab 4) 73 lt 2 ((loopsIn E.P 109).getD 1 (0,.skip)).2 (mkLoop 2 kp2 kR p2 c2 cR b2):=mkLoop_sound (by decide) (by decide) p2_ok (fun R Kx Kr x=>l2v  R Kx Kr x)
theorem loops:LoopsOk E tab lt 4 109:=loops_of (nt:=73) (ids:=[0,2]) (by kernel_rfl) (by kernel_rfl) (by
 intro k i hk l hl
 match k,hk with
 | 0,hk=>cases hk;cases hl;exact l0_ok
 | 1,hk=>cases hk;cases hl;exact l2_ok
 | _+2,hk=>exact absurd hk (by simp))
theorem det (a:Disk) (b_1:Disk):Det (F a b_1):=by
 unfold F
 repeat' with_reducible first|exact det_ret _|refine det_cond _ ?_ ?_|refine det_oget _ (fun _=>?_)|refine det_loop (fun _=>?_) (fun _=>?_) (fun _=>?_) _ | unfold b0 | unfold b2
theorem edet (a:List AV):Det (en a):=mkEntry_det (fun x:Dens A=>det x.1 x.2.1) a
theorem ground:Ground E tab:=⟨num,mixed,(tab_nil _),clone,dtab_nil,stab⟩
theorem sound:EntrySound E 109 en:=mkSound ground loops (by kernel_rfl) (fun (x:Dens A) K=>eqv  x.1 x.2.1 K)
end q175
namespace q176
abbrev A:List Ty:=[(.st 8),(.st 8)]
abbrev C:=(cTy .bool)
abbrev T:Type:=Store->Store->(Bool->Prop)->Prop
noncomputable def tv (f0:q175.T):Tab:=[(109,mkEntry q175.A q175.C fun x=>f0 x.1 x.2.1)]
noncomputable def tab:Tab:=tv q175.F
def FV (f0:q175.T) (a:Store) (b_1:Store) (K:Bool->Prop):Prop:=
 (f0 a.disk b_1.disk fun r1=>(bif r1 then(bif((a.sup.blocks==b_1.sup.blocks)&&(((a.sup.vector.current==b_1.sup.vector.current)&&((a.sup.vector.bitmap==b_1.sup.vector.bitmap)&&(((a.sup.vector.old0==b_1.sup.vector.old0)&&((a.sup.vector.old1==b_1.sup.vector.old1)&&true))&&true)))&&((a.sup.inc==b_1.sup.inc)&&((a.sup.pri==b_1.sup.pri)&&((a.sup.dis==b_1.sup.dis)&&true)))))then(K (a.mask==b_1.mask))else(K false))else(K false)))
def F (a:Store) (b_1:Store) (K:Bool->Prop):Prop:=FV q175.F a b_1 K
noncomputable def en:Entry:=mkEntry A C fun x=>F x.1 x.2.1
theorem eqv (f0:q175.T) (a:Store) (b_1:Store) (K:Bool->Prop):apure E (tv f0) (fun _=>none) 4 59 [enc (.st 8) a,enc (.st 8) b_1] (ansK C K)=FV f0 a b_1 K:=by kernel_rfl
theorem loops:LoopsOk E tab (fun _=>none) 4 59:=loops_none _ _ _ _
theorem det (a:Store) (b_1:Store):Det (F a b_1):=by
 unfold F FV
 repeat' with_reducible first|exact det_ret _|refine det_cond _ ?_ ?_|refine det_bind (q175.det _ _) (fun _=>?_)
theorem edet (a:List AV):Det (en a):=mkEntry_det (fun x:Dens A=>det x.1 x.2.1) a
theorem ground:Ground E tab:=⟨num,mixed,(tab_cons q175.sound (tab_nil _)),clone,(dtab_cons q175.edet dtab_nil),stab⟩
theorem sound:EntrySound E 59 en:=mkSound ground loops (by kernel_rfl) (fun (x:Dens A) K=>eqv q175.F x.1 x.2.1 K)
end q176
namespace q177
abbrev A:List Ty:=[(.slice (.int .u64)),(.slice (.int .u64))]
abbrev C:=(cTy .bool)
abbrev T:Type:=(List Int)->(List Int)->(Bool->Prop)->Prop
noncomputable def tab:Tab:=[]
structure R where
 t4:Bool
def cR (x:R):St:={ fr:=lookL .top [(4,(.bool x.t4))],hs:={ hp:=lookL .dead [],hn:=0 } }
def kR:Keep:={ ks:=[(4,none)],bs:=[],hn:=0 }
structure L0 where
 a:(List Int)
 b0:(List Int)
 i:Int
def c0 (x:L0):St:={ fr:=lookL .top [(0,(.sl .any (.int .u64) x.a)),(1,(.sl .any (.int .u64) x.b0)),(5,(.int .i64 x.i))],hs:={ hp:=lookL .dead [],hn:=0 } }
def kp0:Keep:={ ks:=[(0,none),(1,none),(5,none)],bs:=[],hn:=0 }
def p0 (st:St) (K:L0->Prop):Prop:=gSl .any (.int .u64) (st.fr 0) fun a1=>gSl .any (.int .u64) (st.fr 1) fun a2=>gInt .i64 (st.fr 5) fun a3=>K ⟨a1,a2,a3⟩
set_option maxHeartbeats 4000000 in
theorem p0_ok (st:St) (K:L0->Prop) (h:p0 st K):∃ x,keepSt kp0 st=c0 x∧K x:=by
 obtain ⟨a1,h0,h⟩:=gSl_elim h
 obtain ⟨a2,h1,h⟩:=gSl_elim h
 obtain ⟨a3,h2,h⟩:=gInt_elim h
 refine⟨_,?_,h⟩
 simp only [keepSt,kp0,List.map,h0,h1,h2]
 rfl
def b0 (rec kx:L0->Prop) (kr:R->Prop) (x:L0):Prop:=
 (bif(decide (x.i < (x.a.length:Int)))then(oget (getI x.a x.i) fun v1=>(oget (getI x.b0 x.i) fun v2=>(bif(v1 != v2)then(kr ⟨false⟩)else(rec ⟨x.a,x.b0,(IntKind.i64.wrap (x.i+1))⟩))))else(kx ⟨x.a,x.b0,x.i⟩))
def lt:Nat->Option LSpec
 | 0=>some (mkLoop 0 kp0 kR p0 c0 cR b0)
 | _=>none
def F (a:(List Int)) (b_1:(List Int)) (K:Bool->Prop):Prop:=
 (bif((a.length:Int) != (b_1.length:Int))then(K false)else(∃ n,loopB b0 n (fun x3=>(K true)) (fun r4=>(K r4.t4)) ⟨a,b_1,0⟩))
noncomputable def en:Entry:=mkEntry A C fun x=>F x.1 x.2.1
theorem eqv (a:(List Int)) (b_1:(List Int)) (K:Bool->Prop):apure E tab lt 4 60 [enc (.slice (.int .u64)) a,enc (.slice (.int .u64)) b_1] (ansK C K)=F a b_1 K:=by kernel_rfl
theorem l0v (R:St->Prop) (Kx:Nat->St->Prop) (Kr:St->Prop) (x:L0):acode E tab (afun E tab 4) 26 lt ((loopsIn E.P 60).getD 0 (0,.skip)).2 0 (fun s=>R (keepSt kp0 s)) (fun j s=>Kx j (keepSt kp0 s)) (fun s=>Kr (keepSt kR s)) (c0 x)=b0 (fun x=>R (c0 x)) (fun x=>Kx 0 (c0 x)) (fun r=>Kr (cR r)) x:=by kernel_rfl
theorem l0_ok:LSound E tab (afun E tab 4) 26 lt 0 ((loopsIn E.P 60).getD 0 (0,.skip)).2 (mkLoop 0 kp0 kR p0 c0 cR b0):=mkLoop_sound (by decide) (by decide) p0_ok (fun R Kx Kr x=>l0v  R Kx Kr x)
theorem loops:LoopsOk E tab lt 4 60:=loops_of (nt:=26) (ids:=[0]) (by kernel_rfl) (by kernel_rfl) (by
 intro k i hk l hl
 match k,hk with
 | 0,hk=>cases hk;cases hl;exact l0_ok
 | _+1,hk=>exact absurd hk (by simp))
theorem det (a:(List Int)) (b_1:(List Int)):Det (F a b_1):=by
 unfold F
 repeat' with_reducible first|exact det_ret _|refine det_cond _ ?_ ?_|refine det_oget _ (fun _=>?_)|refine det_loop (fun _=>?_) (fun _=>?_) (fun _=>?_) _ | unfold b0
theorem edet (a:List AV):Det (en a):=mkEntry_det (fun x:Dens A=>det x.1 x.2.1) a
theorem ground:Ground E tab:=⟨num,mixed,(tab_nil _),clone,dtab_nil,stab⟩
theorem sound:EntrySound E 60 en:=mkSound ground loops (by kernel_rfl) (fun (x:Dens A) K=>eqv  x.1 x.2.1 K)
end q177
end Gm
