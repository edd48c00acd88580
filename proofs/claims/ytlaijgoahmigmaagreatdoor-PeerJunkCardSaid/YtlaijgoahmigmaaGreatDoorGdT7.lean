/- Printed by a program (gen.py): the functions' answers, and that they are so. -/
import Derived.Test.YtlaijgoahmigmaaGreatDoorGdT6
import Derived.Test.YtlaijgoahmigmaaGreatDoorGdRd3
set_option linter.unusedVariables false
set_option maxRecDepth 100000
noncomputable section
namespace Gm
open Go Go.Proofs
namespace q184
abbrev A:List Ty:=[(.st 1),(.int .u32)]
abbrev C:=(cTwo (.st 1) (.int .i64))
abbrev T:Type:=Disk->Int->((Disk×Int)->Prop)->Prop
def tv (f0:q183.T) (f1:q177.T):Tab:=[(98,mkEntry q183.A q183.C fun x=>f0 x.1 x.2.1),(154,mkEntry q177.A q177.C fun x=>f1 x.1)]
def tab:Tab:=tv q183.F q177.F
def FV (f0:q183.T) (f1:q177.T) (d:Disk) (m:Int) (K:(Disk×Int)->Prop):Prop:=
 (f0 d m fun r1=>(bif(r1.2 != 0)then(K (r1.1,r1.2))else(f1 r1.1 fun r2=>(K (r2.1,r2.2)))))
def F (d:Disk) (m:Int) (K:(Disk×Int)->Prop):Prop:=FV q183.F q177.F d m K
def en:Entry:=mkEntry A C fun x=>F x.1 x.2.1
theorem eqv (f0:q183.T) (f1:q177.T) (d:Disk) (m:Int) (K:(Disk×Int)->Prop):apure E (tv f0 f1) (fun _=>none) 4 118 [enc (.st 1) d,enc (.int .u32) m] (ansK C K)=FV f0 f1 d m K:=by kernel_rfl
theorem loops:LoopsOk E tab (fun _=>none) 4 118:=lpn _ _ _ _
theorem det (d:Disk) (m:Int):Det (F d m):=by
 unfold F FV
 repeat' with_reducible first|exact det_ret _|refine det_cond _ ?_ ?_|refine det_bind (q183.det _ _) (fun _=>?_)|refine det_bind (q177.det _) (fun _=>?_)
theorem edet a:Det (en a):=mkD (fun x:Dens A=>det x.1 x.2.1) a
theorem ground:Ground E tab:=gnd (tbc q183.sound (tbc q177.sound (tab_nil _))) (dtc q183.edet (dtc q177.edet dtn))
theorem sound:EntrySound E 118 en:=mkSound ground loops (by kernel_rfl) (fun x K=>eqv q183.F q177.F x.1 x.2.1 K)
end q184
namespace q185
abbrev A:List Ty:=[(.st 8),(.int .u32)]
abbrev C:=(cTwo (.st 8) (.int .i64))
abbrev T:Type:=Store->Int->((Store×Int)->Prop)->Prop
def tv (f0:q160.T) (f1:q184.T):Tab:=[(117,mkEntry q160.A q160.C fun x=>f0 x.1),(118,mkEntry q184.A q184.C fun x=>f1 x.1 x.2.1)]
def tab:Tab:=tv q160.F q184.F
def FV (f0:q160.T) (f1:q184.T) (s:Store) (m:Int) (K:(Store×Int)->Prop):Prop:=
 (f0 ([s.mask,m]:List Int) fun r1=>(bif(r1==s.mask)then(K (s,0))else(f1 s.disk r1 fun r2=>(bif(r2.2==0)then(K ((⟨r2.1,s.sup,r1⟩:Store),r2.2))else(K ((⟨r2.1,s.sup,s.mask⟩:Store),r2.2))))))
def F (s:Store) (m:Int) (K:(Store×Int)->Prop):Prop:=FV q160.F q184.F s m K
def en:Entry:=mkEntry A C fun x=>F x.1 x.2.1
theorem eqv (f0:q160.T) (f1:q184.T) (s:Store) (m:Int) (K:(Store×Int)->Prop):apure E (tv f0 f1) (fun _=>none) 4 66 [enc (.st 8) s,enc (.int .u32) m] (ansK C K)=FV f0 f1 s m K:=by kernel_rfl
theorem loops:LoopsOk E tab (fun _=>none) 4 66:=lpn _ _ _ _
theorem det (s:Store) (m:Int):Det (F s m):=by
 unfold F FV
 repeat' with_reducible first|exact det_ret _|refine det_cond _ ?_ ?_|refine det_bind (q160.det _) (fun _=>?_)|refine det_bind (q184.det _ _) (fun _=>?_)
theorem edet a:Det (en a):=mkD (fun x:Dens A=>det x.1 x.2.1) a
theorem ground:Ground E tab:=gnd (tbc q160.sound (tbc q184.sound (tab_nil _))) (dtc q160.edet (dtc q184.edet dtn))
theorem sound:EntrySound E 66 en:=mkSound ground loops (by kernel_rfl) (fun x K=>eqv q160.F q184.F x.1 x.2.1 K)
end q185
namespace q186
abbrev A:List Ty:=[(.st 2),(.int .u64)]
abbrev C:=(cTy (.st 2))
abbrev T:Type:=Vec->Int->(Vec->Prop)->Prop
def tab:Tab:=[]
def F (v:Vec) (g:Int) (K:Vec->Prop):Prop:=
 (K (⟨v.current,g,v.old0,v.old1⟩:Vec))
def en:Entry:=mkEntry A C fun x=>F x.1 x.2.1
theorem eqv (v:Vec) (g:Int) (K:Vec->Prop):apure E tab (fun _=>none) 4 120 [enc (.st 2) v,enc (.int .u64) g] (ansK C K)=F v g K:=by kernel_rfl
theorem loops:LoopsOk E tab (fun _=>none) 4 120:=lpn _ _ _ _
theorem det (v:Vec) (g:Int):Det (F v g):=by
 unfold F
 repeat' with_reducible first|exact det_ret _
theorem edet a:Det (en a):=mkD (fun x:Dens A=>det x.1 x.2.1) a
theorem ground:Ground E tab:=gnd (tab_nil _) dtn
theorem sound:EntrySound E 120 en:=mkSound ground loops (by kernel_rfl) (fun x K=>eqv  x.1 x.2.1 K)
end q186
namespace q187
abbrev A:List Ty:=[(.int .u32),(.int .i64)]
abbrev C:=(cTwo (.int .i64) .bool)
abbrev T:Type:=Int->Int->((Int×Bool)->Prop)->Prop
def tv (f0:math_bits_TrailingZeros32.T):Tab:=[(159,mkEntry math_bits_TrailingZeros32.A math_bits_TrailingZeros32.C fun x=>f0 x.1)]
def tab:Tab:=tv math_bits_TrailingZeros32.F
def FV (f0:math_bits_TrailingZeros32.T) (m:Int) (from_1:Int) (K:(Int×Bool)->Prop):Prop:=
 (bif(decide (from_1≥32))then(K (0,false))else(bif(decide (0≤(maxI2 from_1 0)))then(bif(decide (0≤(maxI2 from_1 0)))then(bif((ishl .u32 (ishr .u32 m (maxI2 from_1 0)) (maxI2 from_1 0))==0)then(K (0,false))else(f0 (ishl .u32 (ishr .u32 m (maxI2 from_1 0)) (maxI2 from_1 0)) fun r1=>(K (r1,true))))else False)else False))
def F (m:Int) (from_1:Int) (K:(Int×Bool)->Prop):Prop:=FV math_bits_TrailingZeros32.F m from_1 K
def en:Entry:=mkEntry A C fun x=>F x.1 x.2.1
theorem eqv (f0:math_bits_TrailingZeros32.T) (m:Int) (from_1:Int) (K:(Int×Bool)->Prop):apure E (tv f0) (fun _=>none) 4 100 [enc (.int .u32) m,enc (.int .i64) from_1] (ansK C K)=FV f0 m from_1 K:=by kernel_rfl
theorem loops:LoopsOk E tab (fun _=>none) 4 100:=lpn _ _ _ _
theorem det (m:Int) (from_1:Int):Det (F m from_1):=by
 unfold F FV
 repeat' with_reducible first|exact det_ret _|exact det_false|refine det_cond _ ?_ ?_|refine det_bind (math_bits_TrailingZeros32.det _) (fun _=>?_)
theorem edet a:Det (en a):=mkD (fun x:Dens A=>det x.1 x.2.1) a
theorem ground:Ground E tab:=gnd (tbc math_bits_TrailingZeros32.sound (tab_nil _)) (dtc math_bits_TrailingZeros32.edet dtn)
theorem sound:EntrySound E 100 en:=mkSound ground loops (by kernel_rfl) (fun x K=>eqv math_bits_TrailingZeros32.F x.1 x.2.1 K)
end q187
namespace q188
abbrev A:List Ty:=[(.st 4)]
abbrev C:=(cTwo .str (.int .i64))
abbrev T:Type:=Hello->((Str×Int)->Prop)->Prop
def tv (f0:q138.T) (f1:q165.T) (f2:q167.T) (f3:q168.T):Tab:=[(219,mkEntry q138.A q138.C fun x=>f0 x.1),(221,mkEntry q165.A q165.C fun x=>f1 x.1),(166,mkEntry q167.A q167.C fun x=>f2 x.1),(158,mkEntry q168.A q168.C fun x=>f3 x.1)]
def tab:Tab:=tv q138.F q165.F q167.F q168.F
def FV (f0:q138.T) (f1:q165.T) (f2:q167.T) (f3:q168.T) (h:Hello) (K:(Str×Int)->Prop):Prop:=
 (f0 h fun r1=>(bif(!r1)then(K (([]:Str),1))else(f1 ([h.inc,h.was,h.dis,h.pri]:List Bool) fun r2=>(f2 h.vector.current fun r3=>(bif(fits ((bytesOfInts ([(IntKind.u8.wrap h.blocks),r2]:List Int)).length+r3.length))then(f2 h.vector.bitmap fun r4=>(bif(fits (((bytesOfInts ([(IntKind.u8.wrap h.blocks),r2]:List Int))++r3).length+r4.length))then(f2 h.vector.old0 fun r5=>(bif(fits ((((bytesOfInts ([(IntKind.u8.wrap h.blocks),r2]:List Int))++r3)++r4).length+r5.length))then(f2 h.vector.old1 fun r6=>(bif(fits (((((bytesOfInts ([(IntKind.u8.wrap h.blocks),r2]:List Int))++r3)++r4)++r5).length+r6.length))then(f3 h.mask fun r7=>(bif(fits ((((((bytesOfInts ([(IntKind.u8.wrap h.blocks),r2]:List Int))++r3)++r4)++r5)++r6).length+r7.length))then(K (((((((bytesOfInts ([(IntKind.u8.wrap h.blocks),r2]:List Int))++r3)++r4)++r5)++r6)++r7),0))else False))else False))else False))else False))else False)))))
def F (h:Hello) (K:(Str×Int)->Prop):Prop:=FV q138.F q165.F q167.F q168.F h K
def en:Entry:=mkEntry A C fun x=>F x.1
theorem eqv (f0:q138.T) (f1:q165.T) (f2:q167.T) (f3:q168.T) (h:Hello) (K:(Str×Int)->Prop):apure E (tv f0 f1 f2 f3) (fun _=>none) 4 167 [enc (.st 4) h] (ansK C K)=FV f0 f1 f2 f3 h K:=by kernel_rfl
theorem loops:LoopsOk E tab (fun _=>none) 4 167:=lpn _ _ _ _
theorem det (h:Hello):Det (F h):=by
 unfold F FV
 repeat' with_reducible first|exact det_ret _|exact det_false|refine det_cond _ ?_ ?_|refine det_bind (q138.det _) (fun _=>?_)|refine det_bind (q165.det _) (fun _=>?_)|refine det_bind (q167.det _) (fun _=>?_)|refine det_bind (q168.det _) (fun _=>?_)
theorem edet a:Det (en a):=mkD (fun x:Dens A=>det x.1) a
theorem ground:Ground E tab:=gnd (tbc q138.sound (tbc q165.sound (tbc q167.sound (tbc q168.sound (tab_nil _))))) (dtc q138.edet (dtc q165.edet (dtc q167.edet (dtc q168.edet dtn))))
theorem sound:EntrySound E 167 en:=mkSound ground loops (by kernel_rfl) (fun x K=>eqv q138.F q165.F q167.F q168.F x.1 K)
end q188
namespace q189
abbrev A:List Ty:=[(.st 5)]
abbrev C:=(cTwo .str (.int .i64))
abbrev T:Type:=Packet->((Str×Int)->Prop)->Prop
def tv (f0:q142.T) (f1:q132.T) (f2:q167.T) (f3:q188.T) (f4:q169.T):Tab:=[(164,mkEntry q142.A q142.C fun x=>f0 x.1),(165,mkEntry q132.A q132.C fun x=>f1 x.1),(166,mkEntry q167.A q167.C fun x=>f2 x.1),(167,mkEntry q188.A q188.C fun x=>f3 x.1),(157,mkEntry q169.A q169.C fun x=>f4 x.1)]
def tab:Tab:=tv q142.F q132.F q167.F q188.F q169.F
def FV (f0:q142.T) (f1:q132.T) (f2:q167.T) (f3:q188.T) (f4:q169.T) (p:Packet) (K:(Str×Int)->Prop):Prop:=
 (f0 p fun r1=>(bif(!r1)then(K (([]:Str),1))else(f1 p.kind fun r2=>(f2 p.session fun r3=>(bif(fits ((bytesOfInts ([(IntKind.u8.wrap p.kind)]:List Int)).length+r3.length))then(bif r2.1.hello then(f3 p.hello fun r4=>(bif(fits (((bytesOfInts ([(IntKind.u8.wrap p.kind)]:List Int))++r3).length+r4.1.length))then(bif r2.1.block then(bif(fits ((((bytesOfInts ([(IntKind.u8.wrap p.kind)]:List Int))++r3)++r4.1).length+(bytesOfInts ([(IntKind.u8.wrap p.block)]:List Int)).length))then(bif(fits (((((bytesOfInts ([(IntKind.u8.wrap p.kind)]:List Int))++r3)++r4.1)++(bytesOfInts ([(IntKind.u8.wrap p.block)]:List Int))).length+p.data.length))then(f4 (((((bytesOfInts ([(IntKind.u8.wrap p.kind)]:List Int))++r3)++r4.1)++(bytesOfInts ([(IntKind.u8.wrap p.block)]:List Int)))++p.data) fun r5=>(K (r5,0)))else False)else False)else(bif(fits ((((bytesOfInts ([(IntKind.u8.wrap p.kind)]:List Int))++r3)++r4.1).length+p.data.length))then(f4 ((((bytesOfInts ([(IntKind.u8.wrap p.kind)]:List Int))++r3)++r4.1)++p.data) fun r6=>(K (r6,0)))else False))else False))else(bif r2.1.block then(bif(fits (((bytesOfInts ([(IntKind.u8.wrap p.kind)]:List Int))++r3).length+(bytesOfInts ([(IntKind.u8.wrap p.block)]:List Int)).length))then(bif(fits ((((bytesOfInts ([(IntKind.u8.wrap p.kind)]:List Int))++r3)++(bytesOfInts ([(IntKind.u8.wrap p.block)]:List Int))).length+p.data.length))then(f4 ((((bytesOfInts ([(IntKind.u8.wrap p.kind)]:List Int))++r3)++(bytesOfInts ([(IntKind.u8.wrap p.block)]:List Int)))++p.data) fun r7=>(K (r7,0)))else False)else False)else(bif(fits (((bytesOfInts ([(IntKind.u8.wrap p.kind)]:List Int))++r3).length+p.data.length))then(f4 (((bytesOfInts ([(IntKind.u8.wrap p.kind)]:List Int))++r3)++p.data) fun r8=>(K (r8,0)))else False)))else False)))))
def F (p:Packet) (K:(Str×Int)->Prop):Prop:=FV q142.F q132.F q167.F q188.F q169.F p K
def en:Entry:=mkEntry A C fun x=>F x.1
theorem eqv (f0:q142.T) (f1:q132.T) (f2:q167.T) (f3:q188.T) (f4:q169.T) (p:Packet) (K:(Str×Int)->Prop):apure E (tv f0 f1 f2 f3 f4) (fun _=>none) 4 106 [enc (.st 5) p] (ansK C K)=FV f0 f1 f2 f3 f4 p K:=by kernel_rfl
theorem loops:LoopsOk E tab (fun _=>none) 4 106:=lpn _ _ _ _
theorem det (p:Packet):Det (F p):=by
 unfold F FV
 repeat' with_reducible first|exact det_ret _|exact det_false|refine det_cond _ ?_ ?_|refine det_bind (q142.det _) (fun _=>?_)|refine det_bind (q132.det _) (fun _=>?_)|refine det_bind (q167.det _) (fun _=>?_)|refine det_bind (q188.det _) (fun _=>?_)|refine det_bind (q169.det _) (fun _=>?_)
theorem edet a:Det (en a):=mkD (fun x:Dens A=>det x.1) a
theorem ground:Ground E tab:=gnd (tbc q142.sound (tbc q132.sound (tbc q167.sound (tbc q188.sound (tbc q169.sound (tab_nil _)))))) (dtc q142.edet (dtc q132.edet (dtc q167.edet (dtc q188.edet (dtc q169.edet dtn)))))
theorem sound:EntrySound E 106 en:=mkSound ground loops (by kernel_rfl) (fun x K=>eqv q142.F q132.F q167.F q188.F q169.F x.1 K)
end q189
namespace q190
abbrev A:List Ty:=[(.st 13)]
abbrev C:=(cTwo (.st 13) (.slice (.st 11)))
abbrev T:Type:=Node->((Node×(List Outp))->Prop)->Prop
def tv (f0:q187.T) (f1:q189.T) (f2:q163.T) (f3:q179.T) (f4:q180.T):Tab:=[(100,mkEntry q187.A q187.C fun x=>f0 x.1 x.2.1),(106,mkEntry q189.A q189.C fun x=>f1 x.1),(84,mkEntry q163.A q163.C fun x=>f2 x.1),(85,mkEntry q179.A q179.C fun x=>f3 x.1 x.2.1),(93,mkEntry q180.A q180.C fun x=>f4 x.1)]
def tab:Tab:=tv q187.F q189.F q163.F q179.F q180.F
def FV (f0:q187.T) (f1:q189.T) (f2:q163.T) (f3:q179.T) (f4:q180.T) (n_0:Node) (K:(Node×(List Outp))->Prop):Prop:=
 (bif(!n_0.store.sup.inc)then(K (n_0,([]:List Outp)))else(bif(n_0.wanted != 0)then(K (n_0,([]:List Outp)))else(f0 n_0.store.mask 0 fun r1=>(bif r1.2 then(f1 (⟨5,n_0.session,(⟨0,(⟨0,0,0,0⟩:Vec),false,false,false,false,0⟩:Hello),r1.1,([]:Str)⟩:Packet) fun r2=>(bif(decide (([(⟨1,n_0.id,0,0,r2.1⟩:Outp)]:List Outp).length * 48≤room))then(K ((⟨n_0.id,n_0.up,n_0.store,n_0.primary,n_0.state,n_0.session,n_0.peer,n_0.peerPri,n_0.req,n_0.asking,n_0.askId,(IntKind.i64.wrap (r1.1+1)),n_0.minted,n_0.draws,n_0.mints⟩:Node),([(⟨1,n_0.id,0,0,r2.1⟩:Outp)]:List Outp)))else False))else(f2 n_0.peer.vector fun r3=>(f3 n_0.store (⟨n_0.store.sup.blocks,r3,false,false,false⟩:Super) fun r4=>(bif(r4.2 != 0)then(f4 (⟨n_0.id,n_0.up,r4.1,n_0.primary,n_0.state,n_0.session,n_0.peer,n_0.peerPri,n_0.req,n_0.asking,n_0.askId,n_0.wanted,n_0.minted,n_0.draws,n_0.mints⟩:Node) fun r5=>(bif(r4.2==0)then(f1 (⟨8,r5.session,(⟨0,(⟨0,0,0,0⟩:Vec),false,false,false,false,0⟩:Hello),0,([]:Str)⟩:Packet) fun r6=>(bif(decide (([(⟨1,r5.id,0,0,r6.1⟩:Outp)]:List Outp).length * 48≤room))then(K (r5,([(⟨1,r5.id,0,0,r6.1⟩:Outp)]:List Outp)))else False))else(K (r5,([]:List Outp)))))else(bif(r4.2==0)then(f1 (⟨8,n_0.session,(⟨0,(⟨0,0,0,0⟩:Vec),false,false,false,false,0⟩:Hello),0,([]:Str)⟩:Packet) fun r7=>(bif(decide (([(⟨1,n_0.id,0,0,r7.1⟩:Outp)]:List Outp).length * 48≤room))then(K ((⟨n_0.id,n_0.up,r4.1,n_0.primary,n_0.state,n_0.session,n_0.peer,n_0.peerPri,n_0.req,n_0.asking,n_0.askId,n_0.wanted,n_0.minted,n_0.draws,n_0.mints⟩:Node),([(⟨1,n_0.id,0,0,r7.1⟩:Outp)]:List Outp)))else False))else(K ((⟨n_0.id,n_0.up,r4.1,n_0.primary,n_0.state,n_0.session,n_0.peer,n_0.peerPri,n_0.req,n_0.asking,n_0.askId,n_0.wanted,n_0.minted,n_0.draws,n_0.mints⟩:Node),([]:List Outp)))))))))))
def F (n_0:Node) (K:(Node×(List Outp))->Prop):Prop:=FV q187.F q189.F q163.F q179.F q180.F n_0 K
def en:Entry:=mkEntry A C fun x=>F x.1
theorem eqv (f0:q187.T) (f1:q189.T) (f2:q163.T) (f3:q179.T) (f4:q180.T) (n_0:Node) (K:(Node×(List Outp))->Prop):apure E (tv f0 f1 f2 f3 f4) (fun _=>none) 4 39 [enc (.st 13) n_0] (ansK C K)=FV f0 f1 f2 f3 f4 n_0 K:=by kernel_rfl
theorem loops:LoopsOk E tab (fun _=>none) 4 39:=lpn _ _ _ _
theorem det (n_0:Node):Det (F n_0):=by
 unfold F FV
 repeat' with_reducible first|exact det_ret _|exact det_false|refine det_cond _ ?_ ?_|refine det_bind (q187.det _ _) (fun _=>?_)|refine det_bind (q189.det _) (fun _=>?_)|refine det_bind (q163.det _) (fun _=>?_)|refine det_bind (q179.det _ _) (fun _=>?_)|refine det_bind (q180.det _) (fun _=>?_)
theorem edet a:Det (en a):=mkD (fun x:Dens A=>det x.1) a
theorem ground:Ground E tab:=gnd (tbc q187.sound (tbc q189.sound (tbc q163.sound (tbc q179.sound (tbc q180.sound (tab_nil _)))))) (dtc q187.edet (dtc q189.edet (dtc q163.edet (dtc q179.edet (dtc q180.edet dtn)))))
theorem sound:EntrySound E 39 en:=mkSound ground loops (by kernel_rfl) (fun x K=>eqv q187.F q189.F q163.F q179.F q180.F x.1 K)
end q190
namespace q191
abbrev A:List Ty:=[(.st 13),(.st 4)]
abbrev C:=(cTwo (.st 13) (.slice (.st 11)))
abbrev T:Type:=Node->Hello->((Node×(List Outp))->Prop)->Prop
def tv (f0:q149.T) (f1:q162.T) (f2:q163.T) (f3:q179.T) (f4:q180.T) (f5:q181.T) (f6:q185.T) (f7:q186.T) (f8:q190.T):Tab:=[(107,mkEntry q149.A q149.C fun x=>f0 x.1 x.2.1 x.2.2.1),(63,mkEntry q162.A q162.C fun x=>f1 x.1 x.2.1),(84,mkEntry q163.A q163.C fun x=>f2 x.1),(85,mkEntry q179.A q179.C fun x=>f3 x.1 x.2.1),(93,mkEntry q180.A q180.C fun x=>f4 x.1),(67,mkEntry q181.A q181.C fun x=>f5 x.1 x.2.1 x.2.2.1),(66,mkEntry q185.A q185.C fun x=>f6 x.1 x.2.1),(120,mkEntry q186.A q186.C fun x=>f7 x.1 x.2.1),(39,mkEntry q190.A q190.C fun x=>f8 x.1)]
def tab:Tab:=tv q149.F q162.F q163.F q179.F q180.F q181.F q185.F q186.F q190.F
def FV (f0:q149.T) (f1:q162.T) (f2:q163.T) (f3:q179.T) (f4:q180.T) (f5:q181.T) (f6:q185.T) (f7:q186.T) (f8:q190.T) (n_0:Node) (h:Hello) (K:(Node×(List Outp))->Prop):Prop:=
 (f0 n_0.store.sup n_0.primary n_0.store.mask fun r1=>(bif(n_0.id==0)then(f1 r1 h fun r19=>(bif(r19.kind==4)then(bif(decide (([(⟨3,n_0.id,0,0,([]:Str)⟩:Outp)]:List Outp).length * 48≤room))then(K (n_0,([(⟨3,n_0.id,0,0,([]:Str)⟩:Outp)]:List Outp)))else False)else(bif(r19.kind==1)then(f2 n_0.store.sup.vector fun r20=>(f3 n_0.store (⟨n_0.store.sup.blocks,r20,n_0.store.sup.inc,n_0.primary,n_0.store.sup.dis⟩:Super) fun r21=>(bif(r21.2 != 0)then(f4 (⟨n_0.id,n_0.up,r21.1,n_0.primary,n_0.state,n_0.session,n_0.peer,n_0.peerPri,n_0.req,n_0.asking,n_0.askId,n_0.wanted,n_0.minted,n_0.draws,n_0.mints⟩:Node) fun r22=>(bif(r21.2==0)then(K ((⟨r22.id,r22.up,r22.store,r22.primary,2,r22.session,h,h.pri,r22.req,r22.asking,r22.askId,r22.wanted,r22.minted,r22.draws,r22.mints⟩:Node),([]:List Outp)))else(K (r22,([]:List Outp)))))else(bif(r21.2==0)then(K ((⟨n_0.id,n_0.up,r21.1,n_0.primary,2,n_0.session,h,h.pri,n_0.req,n_0.asking,n_0.askId,n_0.wanted,n_0.minted,n_0.draws,n_0.mints⟩:Node),([]:List Outp)))else(K ((⟨n_0.id,n_0.up,r21.1,n_0.primary,n_0.state,n_0.session,n_0.peer,n_0.peerPri,n_0.req,n_0.asking,n_0.askId,n_0.wanted,n_0.minted,n_0.draws,n_0.mints⟩:Node),([]:List Outp)))))))else(f5 r19 r1 h fun r23=>(f6 n_0.store r23 fun r24=>(bif(r24.2 != 0)then(f4 (⟨n_0.id,n_0.up,r24.1,n_0.primary,n_0.state,n_0.session,n_0.peer,n_0.peerPri,n_0.req,n_0.asking,n_0.askId,n_0.wanted,n_0.minted,n_0.draws,n_0.mints⟩:Node) fun r25=>(bif(!(r24.2==0))then(K (r25,([]:List Outp)))else(bif(r19.source==r25.id)then(K ((⟨r25.id,r25.up,r25.store,r25.primary,3,r25.session,h,h.pri,r25.req,r25.asking,r25.askId,r25.wanted,r25.minted,r25.draws,r25.mints⟩:Node),([]:List Outp)))else(f7 r25.store.sup.vector h.vector.current fun r26=>(f3 r25.store (⟨r25.store.sup.blocks,r26,true,false,r25.store.sup.dis⟩:Super) fun r27=>(bif(r27.2 != 0)then(f4 (⟨r25.id,r25.up,r27.1,r25.primary,r25.state,r25.session,r25.peer,r25.peerPri,r25.req,r25.asking,r25.askId,r25.wanted,r25.minted,r25.draws,r25.mints⟩:Node) fun r28=>(bif(!(r27.2==0))then(K (r28,([]:List Outp)))else(f8 (⟨r28.id,r28.up,r28.store,r28.primary,4,r28.session,h,h.pri,r28.req,r28.asking,r28.askId,r28.wanted,r28.minted,r28.draws,r28.mints⟩:Node) fun r29=>(K (r29.1,r29.2)))))else(bif(!(r27.2==0))then(K ((⟨r25.id,r25.up,r27.1,r25.primary,r25.state,r25.session,r25.peer,r25.peerPri,r25.req,r25.asking,r25.askId,r25.wanted,r25.minted,r25.draws,r25.mints⟩:Node),([]:List Outp)))else(f8 (⟨r25.id,r25.up,r27.1,r25.primary,4,r25.session,h,h.pri,r25.req,r25.asking,r25.askId,r25.wanted,r25.minted,r25.draws,r25.mints⟩:Node) fun r30=>(K (r30.1,r30.2))))))))))else(bif(!(r24.2==0))then(K ((⟨n_0.id,n_0.up,r24.1,n_0.primary,n_0.state,n_0.session,n_0.peer,n_0.peerPri,n_0.req,n_0.asking,n_0.askId,n_0.wanted,n_0.minted,n_0.draws,n_0.mints⟩:Node),([]:List Outp)))else(bif(r19.source==n_0.id)then(K ((⟨n_0.id,n_0.up,r24.1,n_0.primary,3,n_0.session,h,h.pri,n_0.req,n_0.asking,n_0.askId,n_0.wanted,n_0.minted,n_0.draws,n_0.mints⟩:Node),([]:List Outp)))else(f7 r24.1.sup.vector h.vector.current fun r31=>(f3 r24.1 (⟨r24.1.sup.blocks,r31,true,false,r24.1.sup.dis⟩:Super) fun r32=>(bif(r32.2 != 0)then(f4 (⟨n_0.id,n_0.up,r32.1,n_0.primary,n_0.state,n_0.session,n_0.peer,n_0.peerPri,n_0.req,n_0.asking,n_0.askId,n_0.wanted,n_0.minted,n_0.draws,n_0.mints⟩:Node) fun r33=>(bif(!(r32.2==0))then(K (r33,([]:List Outp)))else(f8 (⟨r33.id,r33.up,r33.store,r33.primary,4,r33.session,h,h.pri,r33.req,r33.asking,r33.askId,r33.wanted,r33.minted,r33.draws,r33.mints⟩:Node) fun r34=>(K (r34.1,r34.2)))))else(bif(!(r32.2==0))then(K ((⟨n_0.id,n_0.up,r32.1,n_0.primary,n_0.state,n_0.session,n_0.peer,n_0.peerPri,n_0.req,n_0.asking,n_0.askId,n_0.wanted,n_0.minted,n_0.draws,n_0.mints⟩:Node),([]:List Outp)))else(f8 (⟨n_0.id,n_0.up,r32.1,n_0.primary,4,n_0.session,h,h.pri,n_0.req,n_0.asking,n_0.askId,n_0.wanted,n_0.minted,n_0.draws,n_0.mints⟩:Node) fun r35=>(K (r35.1,r35.2)))))))))))))))else(bif(n_0.id==1)then(f1 h r1 fun r2=>(bif(r2.kind==4)then(bif(decide (([(⟨3,n_0.id,0,0,([]:Str)⟩:Outp)]:List Outp).length * 48≤room))then(K (n_0,([(⟨3,n_0.id,0,0,([]:Str)⟩:Outp)]:List Outp)))else False)else(bif(r2.kind==1)then(f2 n_0.store.sup.vector fun r3=>(f3 n_0.store (⟨n_0.store.sup.blocks,r3,n_0.store.sup.inc,n_0.primary,n_0.store.sup.dis⟩:Super) fun r4=>(bif(r4.2 != 0)then(f4 (⟨n_0.id,n_0.up,r4.1,n_0.primary,n_0.state,n_0.session,n_0.peer,n_0.peerPri,n_0.req,n_0.asking,n_0.askId,n_0.wanted,n_0.minted,n_0.draws,n_0.mints⟩:Node) fun r5=>(bif(r4.2==0)then(K ((⟨r5.id,r5.up,r5.store,r5.primary,2,r5.session,h,h.pri,r5.req,r5.asking,r5.askId,r5.wanted,r5.minted,r5.draws,r5.mints⟩:Node),([]:List Outp)))else(K (r5,([]:List Outp)))))else(bif(r4.2==0)then(K ((⟨n_0.id,n_0.up,r4.1,n_0.primary,2,n_0.session,h,h.pri,n_0.req,n_0.asking,n_0.askId,n_0.wanted,n_0.minted,n_0.draws,n_0.mints⟩:Node),([]:List Outp)))else(K ((⟨n_0.id,n_0.up,r4.1,n_0.primary,n_0.state,n_0.session,n_0.peer,n_0.peerPri,n_0.req,n_0.asking,n_0.askId,n_0.wanted,n_0.minted,n_0.draws,n_0.mints⟩:Node),([]:List Outp)))))))else(f5 r2 h r1 fun r6=>(f6 n_0.store r6 fun r7=>(bif(r7.2 != 0)then(f4 (⟨n_0.id,n_0.up,r7.1,n_0.primary,n_0.state,n_0.session,n_0.peer,n_0.peerPri,n_0.req,n_0.asking,n_0.askId,n_0.wanted,n_0.minted,n_0.draws,n_0.mints⟩:Node) fun r8=>(bif(!(r7.2==0))then(K (r8,([]:List Outp)))else(bif(r2.source==r8.id)then(K ((⟨r8.id,r8.up,r8.store,r8.primary,3,r8.session,h,h.pri,r8.req,r8.asking,r8.askId,r8.wanted,r8.minted,r8.draws,r8.mints⟩:Node),([]:List Outp)))else(f7 r8.store.sup.vector h.vector.current fun r9=>(f3 r8.store (⟨r8.store.sup.blocks,r9,true,false,r8.store.sup.dis⟩:Super) fun r10=>(bif(r10.2 != 0)then(f4 (⟨r8.id,r8.up,r10.1,r8.primary,r8.state,r8.session,r8.peer,r8.peerPri,r8.req,r8.asking,r8.askId,r8.wanted,r8.minted,r8.draws,r8.mints⟩:Node) fun r11=>(bif(!(r10.2==0))then(K (r11,([]:List Outp)))else(f8 (⟨r11.id,r11.up,r11.store,r11.primary,4,r11.session,h,h.pri,r11.req,r11.asking,r11.askId,r11.wanted,r11.minted,r11.draws,r11.mints⟩:Node) fun r12=>(K (r12.1,r12.2)))))else(bif(!(r10.2==0))then(K ((⟨r8.id,r8.up,r10.1,r8.primary,r8.state,r8.session,r8.peer,r8.peerPri,r8.req,r8.asking,r8.askId,r8.wanted,r8.minted,r8.draws,r8.mints⟩:Node),([]:List Outp)))else(f8 (⟨r8.id,r8.up,r10.1,r8.primary,4,r8.session,h,h.pri,r8.req,r8.asking,r8.askId,r8.wanted,r8.minted,r8.draws,r8.mints⟩:Node) fun r13=>(K (r13.1,r13.2))))))))))else(bif(!(r7.2==0))then(K ((⟨n_0.id,n_0.up,r7.1,n_0.primary,n_0.state,n_0.session,n_0.peer,n_0.peerPri,n_0.req,n_0.asking,n_0.askId,n_0.wanted,n_0.minted,n_0.draws,n_0.mints⟩:Node),([]:List Outp)))else(bif(r2.source==n_0.id)then(K ((⟨n_0.id,n_0.up,r7.1,n_0.primary,3,n_0.session,h,h.pri,n_0.req,n_0.asking,n_0.askId,n_0.wanted,n_0.minted,n_0.draws,n_0.mints⟩:Node),([]:List Outp)))else(f7 r7.1.sup.vector h.vector.current fun r14=>(f3 r7.1 (⟨r7.1.sup.blocks,r14,true,false,r7.1.sup.dis⟩:Super) fun r15=>(bif(r15.2 != 0)then(f4 (⟨n_0.id,n_0.up,r15.1,n_0.primary,n_0.state,n_0.session,n_0.peer,n_0.peerPri,n_0.req,n_0.asking,n_0.askId,n_0.wanted,n_0.minted,n_0.draws,n_0.mints⟩:Node) fun r16=>(bif(!(r15.2==0))then(K (r16,([]:List Outp)))else(f8 (⟨r16.id,r16.up,r16.store,r16.primary,4,r16.session,h,h.pri,r16.req,r16.asking,r16.askId,r16.wanted,r16.minted,r16.draws,r16.mints⟩:Node) fun r17=>(K (r17.1,r17.2)))))else(bif(!(r15.2==0))then(K ((⟨n_0.id,n_0.up,r15.1,n_0.primary,n_0.state,n_0.session,n_0.peer,n_0.peerPri,n_0.req,n_0.asking,n_0.askId,n_0.wanted,n_0.minted,n_0.draws,n_0.mints⟩:Node),([]:List Outp)))else(f8 (⟨n_0.id,n_0.up,r15.1,n_0.primary,4,n_0.session,h,h.pri,n_0.req,n_0.asking,n_0.askId,n_0.wanted,n_0.minted,n_0.draws,n_0.mints⟩:Node) fun r18=>(K (r18.1,r18.2)))))))))))))))else False)))
def F (n_0:Node) (h:Hello) (K:(Node×(List Outp))->Prop):Prop:=FV q149.F q162.F q163.F q179.F q180.F q181.F q185.F q186.F q190.F n_0 h K
def en:Entry:=mkEntry A C fun x=>F x.1 x.2.1
theorem eqv (f0:q149.T) (f1:q162.T) (f2:q163.T) (f3:q179.T) (f4:q180.T) (f5:q181.T) (f6:q185.T) (f7:q186.T) (f8:q190.T) (n_0:Node) (h:Hello) (K:(Node×(List Outp))->Prop):apure E (tv f0 f1 f2 f3 f4 f5 f6 f7 f8) (fun _=>none) 4 25 [enc (.st 13) n_0,enc (.st 4) h] (ansK C K)=FV f0 f1 f2 f3 f4 f5 f6 f7 f8 n_0 h K:=by kernel_rfl
theorem loops:LoopsOk E tab (fun _=>none) 4 25:=lpn _ _ _ _
theorem det (n_0:Node) (h:Hello):Det (F n_0 h):=by
 unfold F FV
 repeat' with_reducible first|exact det_ret _|exact det_false|refine det_cond _ ?_ ?_|refine det_bind (q149.det _ _ _) (fun _=>?_)|refine det_bind (q162.det _ _) (fun _=>?_)|refine det_bind (q163.det _) (fun _=>?_)|refine det_bind (q179.det _ _) (fun _=>?_)|refine det_bind (q180.det _) (fun _=>?_)|refine det_bind (q181.det _ _ _) (fun _=>?_)|refine det_bind (q185.det _ _) (fun _=>?_)|refine det_bind (q186.det _ _) (fun _=>?_)|refine det_bind (q190.det _) (fun _=>?_)
theorem edet a:Det (en a):=mkD (fun x:Dens A=>det x.1 x.2.1) a
theorem ground:Ground E tab:=gnd (tbc q149.sound (tbc q162.sound (tbc q163.sound (tbc q179.sound (tbc q180.sound (tbc q181.sound (tbc q185.sound (tbc q186.sound (tbc q190.sound (tab_nil _)))))))))) (dtc q149.edet (dtc q162.edet (dtc q163.edet (dtc q179.edet (dtc q180.edet (dtc q181.edet (dtc q185.edet (dtc q186.edet (dtc q190.edet dtn)))))))))
theorem sound:EntrySound E 25 en:=mkSound ground loops (by kernel_rfl) (fun x K=>eqv q149.F q162.F q163.F q179.F q180.F q181.F q185.F q186.F q190.F x.1 x.2.1 K)
end q191
namespace q192
abbrev A:List Ty:=[(.st 8),(.int .i64)]
abbrev C:=(cTy .bool)
abbrev T:Type:=Store->Int->(Bool->Prop)->Prop
def tab:Tab:=[]
def F (s:Store) (i:Int) (K:Bool->Prop):Prop:=
 (bif(decide (i≥0))then(K (decide (i < s.sup.blocks)))else(K false))
def en:Entry:=mkEntry A C fun x=>F x.1 x.2.1
theorem eqv (s:Store) (i:Int) (K:Bool->Prop):apure E tab (fun _=>none) 4 95 [enc (.st 8) s,enc (.int .i64) i] (ansK C K)=F s i K:=by kernel_rfl
theorem loops:LoopsOk E tab (fun _=>none) 4 95:=lpn _ _ _ _
theorem det (s:Store) (i:Int):Det (F s i):=by
 unfold F
 repeat' with_reducible first|exact det_ret _|refine det_cond _ ?_ ?_
theorem edet a:Det (en a):=mkD (fun x:Dens A=>det x.1 x.2.1) a
theorem ground:Ground E tab:=gnd (tab_nil _) dtn
theorem sound:EntrySound E 95 en:=mkSound ground loops (by kernel_rfl) (fun x K=>eqv  x.1 x.2.1 K)
end q192
namespace q193
abbrev A:List Ty:=[(.st 8),(.int .i64)]
abbrev C:=(cTwo (.st 8) (.int .i64))
abbrev T:Type:=Store->Int->((Store×Int)->Prop)->Prop
def tv (f0:q192.T) (f1:q141.T) (f2:q184.T):Tab:=[(95,mkEntry q192.A q192.C fun x=>f0 x.1 x.2.1),(220,mkEntry q141.A q141.C fun x=>f1 x.1 x.2.1),(118,mkEntry q184.A q184.C fun x=>f2 x.1 x.2.1)]
def tab:Tab:=tv q192.F q141.F q184.F
def FV (f0:q192.T) (f1:q141.T) (f2:q184.T) (s:Store) (i:Int) (K:(Store×Int)->Prop):Prop:=
 (f0 s i fun r1=>(bif(!r1)then(K (s,4))else(f1 s.mask ([i]:List Int) fun r2=>(bif(r2==s.mask)then(K (s,0))else(f2 s.disk r2 fun r3=>(bif(r3.2==0)then(K ((⟨r3.1,s.sup,r2⟩:Store),r3.2))else(K ((⟨r3.1,s.sup,s.mask⟩:Store),r3.2))))))))
def F (s:Store) (i:Int) (K:(Store×Int)->Prop):Prop:=FV q192.F q141.F q184.F s i K
def en:Entry:=mkEntry A C fun x=>F x.1 x.2.1
theorem eqv (f0:q192.T) (f1:q141.T) (f2:q184.T) (s:Store) (i:Int) (K:(Store×Int)->Prop):apure E (tv f0 f1 f2) (fun _=>none) 4 251 [enc (.st 8) s,enc (.int .i64) i] (ansK C K)=FV f0 f1 f2 s i K:=by kernel_rfl
theorem loops:LoopsOk E tab (fun _=>none) 4 251:=lpn _ _ _ _
theorem det (s:Store) (i:Int):Det (F s i):=by
 unfold F FV
 repeat' with_reducible first|exact det_ret _|refine det_cond _ ?_ ?_|refine det_bind (q192.det _ _) (fun _=>?_)|refine det_bind (q141.det _ _) (fun _=>?_)|refine det_bind (q184.det _ _) (fun _=>?_)
theorem edet a:Det (en a):=mkD (fun x:Dens A=>det x.1 x.2.1) a
theorem ground:Ground E tab:=gnd (tbc q192.sound (tbc q141.sound (tbc q184.sound (tab_nil _)))) (dtc q192.edet (dtc q141.edet (dtc q184.edet dtn)))
theorem sound:EntrySound E 251 en:=mkSound ground loops (by kernel_rfl) (fun x K=>eqv q192.F q141.F q184.F x.1 x.2.1 K)
end q193
namespace q194
abbrev A:List Ty:=[(.st 1),(.int .i64)]
abbrev C:=(cTy .bool)
abbrev T:Type:=Disk->Int->(Bool->Prop)->Prop
def tab:Tab:=[]
def F (d:Disk) (i:Int) (K:Bool->Prop):Prop:=
 (bif(decide (i≥0))then(K (decide (i < (IntKind.i64.wrap ((d.sure.length:Int) - 2)))))else(K false))
def en:Entry:=mkEntry A C fun x=>F x.1 x.2.1
theorem eqv (d:Disk) (i:Int) (K:Bool->Prop):apure E tab (fun _=>none) 4 152 [enc (.st 1) d,enc (.int .i64) i] (ansK C K)=F d i K:=by kernel_rfl
theorem loops:LoopsOk E tab (fun _=>none) 4 152:=lpn _ _ _ _
theorem det (d:Disk) (i:Int):Det (F d i):=by
 unfold F
 repeat' with_reducible first|exact det_ret _|refine det_cond _ ?_ ?_
theorem edet a:Det (en a):=mkD (fun x:Dens A=>det x.1 x.2.1) a
theorem ground:Ground E tab:=gnd (tab_nil _) dtn
theorem sound:EntrySound E 152 en:=mkSound ground loops (by kernel_rfl) (fun x K=>eqv  x.1 x.2.1 K)
end q194
namespace q195
abbrev A:List Ty:=[(.st 1),(.int .i64),.str]
abbrev C:=(cTwo (.st 1) (.int .i64))
abbrev T:Type:=Disk->Int->Str->((Disk×Int)->Prop)->Prop
def tv (f0:q194.T) (f1:q175.T) (f2:q177.T):Tab:=[(152,mkEntry q194.A q194.C fun x=>f0 x.1 x.2.1),(153,mkEntry q175.A q175.C fun x=>f1 x.1 x.2.1 x.2.2.1),(154,mkEntry q177.A q177.C fun x=>f2 x.1)]
def tab:Tab:=tv q194.F q175.F q177.F
def FV (f0:q194.T) (f1:q175.T) (f2:q177.T) (d:Disk) (i:Int) (data:Str) (K:(Disk×Int)->Prop):Prop:=
 (f0 d i fun r1=>(bif(!r1)then(K (d,4))else(bif((data.length:Int) != 8)then(K (d,5))else(f1 d (IntKind.i64.wrap (i+2)) data fun r2=>(bif(r2.2 != 0)then(K (r2.1,r2.2))else(f2 r2.1 fun r3=>(K (r3.1,r3.2))))))))
def F (d:Disk) (i:Int) (data:Str) (K:(Disk×Int)->Prop):Prop:=FV q194.F q175.F q177.F d i data K
def en:Entry:=mkEntry A C fun x=>F x.1 x.2.1 x.2.2.1
theorem eqv (f0:q194.T) (f1:q175.T) (f2:q177.T) (d:Disk) (i:Int) (data:Str) (K:(Disk×Int)->Prop):apure E (tv f0 f1 f2) (fun _=>none) 4 94 [enc (.st 1) d,enc (.int .i64) i,enc .str data] (ansK C K)=FV f0 f1 f2 d i data K:=by kernel_rfl
theorem loops:LoopsOk E tab (fun _=>none) 4 94:=lpn _ _ _ _
theorem det (d:Disk) (i:Int) (data:Str):Det (F d i data):=by
 unfold F FV
 repeat' with_reducible first|exact det_ret _|refine det_cond _ ?_ ?_|refine det_bind (q194.det _ _) (fun _=>?_)|refine det_bind (q175.det _ _ _) (fun _=>?_)|refine det_bind (q177.det _) (fun _=>?_)
theorem edet a:Det (en a):=mkD (fun x:Dens A=>det x.1 x.2.1 x.2.2.1) a
theorem ground:Ground E tab:=gnd (tbc q194.sound (tbc q175.sound (tbc q177.sound (tab_nil _)))) (dtc q194.edet (dtc q175.edet (dtc q177.edet dtn)))
theorem sound:EntrySound E 94 en:=mkSound ground loops (by kernel_rfl) (fun x K=>eqv q194.F q175.F q177.F x.1 x.2.1 x.2.2.1 K)
end q195
namespace q196
abbrev A:List Ty:=[(.st 8),(.int .i64),.str]
abbrev C:=(cTwo (.st 8) (.int .i64))
abbrev T:Type:=Store->Int->Str->((Store×Int)->Prop)->Prop
def tv (f0:q195.T):Tab:=[(94,mkEntry q195.A q195.C fun x=>f0 x.1 x.2.1 x.2.2.1)]
def tab:Tab:=tv q195.F
def FV (f0:q195.T) (s:Store) (i:Int) (data:Str) (K:(Store×Int)->Prop):Prop:=
 (f0 s.disk i data fun r1=>(K ((⟨r1.1,s.sup,s.mask⟩:Store),r1.2)))
def F (s:Store) (i:Int) (data:Str) (K:(Store×Int)->Prop):Prop:=FV q195.F s i data K
def en:Entry:=mkEntry A C fun x=>F x.1 x.2.1 x.2.2.1
theorem eqv (f0:q195.T) (s:Store) (i:Int) (data:Str) (K:(Store×Int)->Prop):apure E (tv f0) (fun _=>none) 4 45 [enc (.st 8) s,enc (.int .i64) i,enc .str data] (ansK C K)=FV f0 s i data K:=by kernel_rfl
theorem loops:LoopsOk E tab (fun _=>none) 4 45:=lpn _ _ _ _
theorem det (s:Store) (i:Int) (data:Str):Det (F s i data):=by
 unfold F FV
 repeat' with_reducible first|exact det_ret _|refine det_bind (q195.det _ _ _) (fun _=>?_)
theorem edet a:Det (en a):=mkD (fun x:Dens A=>det x.1 x.2.1 x.2.2.1) a
theorem ground:Ground E tab:=gnd (tbc q195.sound (tab_nil _)) (dtc q195.edet dtn)
theorem sound:EntrySound E 45 en:=mkSound ground loops (by kernel_rfl) (fun x K=>eqv q195.F x.1 x.2.1 x.2.2.1 K)
end q196
namespace q197
abbrev A:List Ty:=[(.st 13),(.int .i64),.str]
abbrev C:=(cTwo (.st 13) (.slice (.st 11)))
abbrev T:Type:=Node->Int->Str->((Node×(List Outp))->Prop)->Prop
def tv (f0:q193.T) (f1:q180.T) (f2:q196.T) (f3:q189.T):Tab:=[(251,mkEntry q193.A q193.C fun x=>f0 x.1 x.2.1),(93,mkEntry q180.A q180.C fun x=>f1 x.1),(45,mkEntry q196.A q196.C fun x=>f2 x.1 x.2.1 x.2.2.1),(106,mkEntry q189.A q189.C fun x=>f3 x.1)]
def tab:Tab:=tv q193.F q180.F q196.F q189.F
def FV (f0:q193.T) (f1:q180.T) (f2:q196.T) (f3:q189.T) (n_0:Node) (block:Int) (data:Str) (K:(Node×(List Outp))->Prop):Prop:=
 (f0 n_0.store block fun r1=>(bif(r1.2 != 0)then(f1 (⟨n_0.id,n_0.up,r1.1,n_0.primary,n_0.state,n_0.session,n_0.peer,n_0.peerPri,n_0.req,n_0.asking,n_0.askId,n_0.wanted,n_0.minted,n_0.draws,n_0.mints⟩:Node) fun r2=>(bif(r1.2==0)then(f2 r2.store block data fun r3=>(bif(r3.2 != 0)then(f1 (⟨r2.id,r2.up,r3.1,r2.primary,r2.state,r2.session,r2.peer,r2.peerPri,r2.req,r2.asking,r2.askId,r2.wanted,r2.minted,r2.draws,r2.mints⟩:Node) fun r4=>(bif(r3.2==0)then(f3 (⟨3,r4.session,(⟨0,(⟨0,0,0,0⟩:Vec),false,false,false,false,0⟩:Hello),block,([]:Str)⟩:Packet) fun r5=>(bif(decide (([(⟨1,r4.id,0,0,r5.1⟩:Outp)]:List Outp).length * 48≤room))then(K (r4,([(⟨1,r4.id,0,0,r5.1⟩:Outp)]:List Outp)))else False))else(K (r4,([]:List Outp)))))else(bif(r3.2==0)then(f3 (⟨3,r2.session,(⟨0,(⟨0,0,0,0⟩:Vec),false,false,false,false,0⟩:Hello),block,([]:Str)⟩:Packet) fun r6=>(bif(decide (([(⟨1,r2.id,0,0,r6.1⟩:Outp)]:List Outp).length * 48≤room))then(K ((⟨r2.id,r2.up,r3.1,r2.primary,r2.state,r2.session,r2.peer,r2.peerPri,r2.req,r2.asking,r2.askId,r2.wanted,r2.minted,r2.draws,r2.mints⟩:Node),([(⟨1,r2.id,0,0,r6.1⟩:Outp)]:List Outp)))else False))else(K ((⟨r2.id,r2.up,r3.1,r2.primary,r2.state,r2.session,r2.peer,r2.peerPri,r2.req,r2.asking,r2.askId,r2.wanted,r2.minted,r2.draws,r2.mints⟩:Node),([]:List Outp))))))else(K (r2,([]:List Outp)))))else(bif(r1.2==0)then(f2 r1.1 block data fun r7=>(bif(r7.2 != 0)then(f1 (⟨n_0.id,n_0.up,r7.1,n_0.primary,n_0.state,n_0.session,n_0.peer,n_0.peerPri,n_0.req,n_0.asking,n_0.askId,n_0.wanted,n_0.minted,n_0.draws,n_0.mints⟩:Node) fun r8=>(bif(r7.2==0)then(f3 (⟨3,r8.session,(⟨0,(⟨0,0,0,0⟩:Vec),false,false,false,false,0⟩:Hello),block,([]:Str)⟩:Packet) fun r9=>(bif(decide (([(⟨1,r8.id,0,0,r9.1⟩:Outp)]:List Outp).length * 48≤room))then(K (r8,([(⟨1,r8.id,0,0,r9.1⟩:Outp)]:List Outp)))else False))else(K (r8,([]:List Outp)))))else(bif(r7.2==0)then(f3 (⟨3,n_0.session,(⟨0,(⟨0,0,0,0⟩:Vec),false,false,false,false,0⟩:Hello),block,([]:Str)⟩:Packet) fun r10=>(bif(decide (([(⟨1,n_0.id,0,0,r10.1⟩:Outp)]:List Outp).length * 48≤room))then(K ((⟨n_0.id,n_0.up,r7.1,n_0.primary,n_0.state,n_0.session,n_0.peer,n_0.peerPri,n_0.req,n_0.asking,n_0.askId,n_0.wanted,n_0.minted,n_0.draws,n_0.mints⟩:Node),([(⟨1,n_0.id,0,0,r10.1⟩:Outp)]:List Outp)))else False))else(K ((⟨n_0.id,n_0.up,r7.1,n_0.primary,n_0.state,n_0.session,n_0.peer,n_0.peerPri,n_0.req,n_0.asking,n_0.askId,n_0.wanted,n_0.minted,n_0.draws,n_0.mints⟩:Node),([]:List Outp))))))else(K ((⟨n_0.id,n_0.up,r1.1,n_0.primary,n_0.state,n_0.session,n_0.peer,n_0.peerPri,n_0.req,n_0.asking,n_0.askId,n_0.wanted,n_0.minted,n_0.draws,n_0.mints⟩:Node),([]:List Outp))))))
def F (n_0:Node) (block:Int) (data:Str) (K:(Node×(List Outp))->Prop):Prop:=FV q193.F q180.F q196.F q189.F n_0 block data K
def en:Entry:=mkEntry A C fun x=>F x.1 x.2.1 x.2.2.1
theorem eqv (f0:q193.T) (f1:q180.T) (f2:q196.T) (f3:q189.T) (n_0:Node) (block:Int) (data:Str) (K:(Node×(List Outp))->Prop):apure E (tv f0 f1 f2 f3) (fun _=>none) 4 137 [enc (.st 13) n_0,enc (.int .i64) block,enc .str data] (ansK C K)=FV f0 f1 f2 f3 n_0 block data K:=by kernel_rfl
theorem loops:LoopsOk E tab (fun _=>none) 4 137:=lpn _ _ _ _
theorem det (n_0:Node) (block:Int) (data:Str):Det (F n_0 block data):=by
 unfold F FV
 repeat' with_reducible first|exact det_ret _|exact det_false|refine det_cond _ ?_ ?_|refine det_bind (q193.det _ _) (fun _=>?_)|refine det_bind (q180.det _) (fun _=>?_)|refine det_bind (q196.det _ _ _) (fun _=>?_)|refine det_bind (q189.det _) (fun _=>?_)
theorem edet a:Det (en a):=mkD (fun x:Dens A=>det x.1 x.2.1 x.2.2.1) a
theorem ground:Ground E tab:=gnd (tbc q193.sound (tbc q180.sound (tbc q196.sound (tbc q189.sound (tab_nil _))))) (dtc q193.edet (dtc q180.edet (dtc q196.edet (dtc q189.edet dtn))))
theorem sound:EntrySound E 137 en:=mkSound ground loops (by kernel_rfl) (fun x K=>eqv q193.F q180.F q196.F q189.F x.1 x.2.1 x.2.2.1 K)
end q197
namespace q198
abbrev A:List Ty:=[(.int .u32),(.slice (.int .i64))]
abbrev C:=(cTy (.int .u32))
abbrev T:Type:=Int->(List Int)->(Int->Prop)->Prop
def tv (f0:q140.T):Tab:=[(155,mkEntry q140.A q140.C fun x=>f0 x.1)]
def tab:Tab:=tv q140.F
def FV (f0:q140.T) (m:Int) (l:(List Int)) (K:Int->Prop):Prop:=
 (f0 l fun r1=>(K (iandn .u32 m r1)))
def F (m:Int) (l:(List Int)) (K:Int->Prop):Prop:=FV q140.F m l K
def en:Entry:=mkEntry A C fun x=>F x.1 x.2.1
theorem eqv (f0:q140.T) (m:Int) (l:(List Int)) (K:Int->Prop):apure E (tv f0) (fun _=>none) 4 97 [enc (.int .u32) m,enc (.slice (.int .i64)) l] (ansK C K)=FV f0 m l K:=by kernel_rfl
theorem loops:LoopsOk E tab (fun _=>none) 4 97:=lpn _ _ _ _
theorem det (m:Int) (l:(List Int)):Det (F m l):=by
 unfold F FV
 repeat' with_reducible first|exact det_ret _|refine det_bind (q140.det _) (fun _=>?_)
theorem edet a:Det (en a):=mkD (fun x:Dens A=>det x.1 x.2.1) a
theorem ground:Ground E tab:=gnd (tbc q140.sound (tab_nil _)) (dtc q140.edet dtn)
theorem sound:EntrySound E 97 en:=mkSound ground loops (by kernel_rfl) (fun x K=>eqv q140.F x.1 x.2.1 K)
end q198
namespace q199
abbrev A:List Ty:=[(.st 8),(.int .i64)]
abbrev C:=(cTwo (.st 8) (.int .i64))
abbrev T:Type:=Store->Int->((Store×Int)->Prop)->Prop
def tv (f0:q192.T) (f1:q198.T) (f2:q183.T):Tab:=[(95,mkEntry q192.A q192.C fun x=>f0 x.1 x.2.1),(97,mkEntry q198.A q198.C fun x=>f1 x.1 x.2.1),(98,mkEntry q183.A q183.C fun x=>f2 x.1 x.2.1)]
def tab:Tab:=tv q192.F q198.F q183.F
def FV (f0:q192.T) (f1:q198.T) (f2:q183.T) (s:Store) (i:Int) (K:(Store×Int)->Prop):Prop:=
 (f0 s i fun r1=>(bif(!r1)then(K (s,4))else(f1 s.mask ([i]:List Int) fun r2=>(bif(r2==s.mask)then(K (s,0))else(f2 s.disk r2 fun r3=>(bif(r3.2==0)then(K ((⟨r3.1,s.sup,r2⟩:Store),r3.2))else(K ((⟨r3.1,s.sup,s.mask⟩:Store),r3.2))))))))
def F (s:Store) (i:Int) (K:(Store×Int)->Prop):Prop:=FV q192.F q198.F q183.F s i K
def en:Entry:=mkEntry A C fun x=>F x.1 x.2.1
theorem eqv (f0:q192.T) (f1:q198.T) (f2:q183.T) (s:Store) (i:Int) (K:(Store×Int)->Prop):apure E (tv f0 f1 f2) (fun _=>none) 4 46 [enc (.st 8) s,enc (.int .i64) i] (ansK C K)=FV f0 f1 f2 s i K:=by kernel_rfl
theorem loops:LoopsOk E tab (fun _=>none) 4 46:=lpn _ _ _ _
theorem det (s:Store) (i:Int):Det (F s i):=by
 unfold F FV
 repeat' with_reducible first|exact det_ret _|refine det_cond _ ?_ ?_|refine det_bind (q192.det _ _) (fun _=>?_)|refine det_bind (q198.det _ _) (fun _=>?_)|refine det_bind (q183.det _ _) (fun _=>?_)
theorem edet a:Det (en a):=mkD (fun x:Dens A=>det x.1 x.2.1) a
theorem ground:Ground E tab:=gnd (tbc q192.sound (tbc q198.sound (tbc q183.sound (tab_nil _)))) (dtc q192.edet (dtc q198.edet (dtc q183.edet dtn)))
theorem sound:EntrySound E 46 en:=mkSound ground loops (by kernel_rfl) (fun x K=>eqv q192.F q198.F q183.F x.1 x.2.1 K)
end q199
namespace q200
abbrev A:List Ty:=[(.st 13),(.int .i64)]
abbrev C:=(cTwo (.st 13) (.slice (.st 11)))
abbrev T:Type:=Node->Int->((Node×(List Outp))->Prop)->Prop
def tv (f0:q199.T) (f1:q180.T) (f2:q189.T):Tab:=[(46,mkEntry q199.A q199.C fun x=>f0 x.1 x.2.1),(93,mkEntry q180.A q180.C fun x=>f1 x.1),(106,mkEntry q189.A q189.C fun x=>f2 x.1)]
def tab:Tab:=tv q199.F q180.F q189.F
def FV (f0:q199.T) (f1:q180.T) (f2:q189.T) (n_0:Node) (block:Int) (K:(Node×(List Outp))->Prop):Prop:=
 (bif(!n_0.req.on)then(K (n_0,([]:List Outp)))else(bif(n_0.req.block != block)then(K (n_0,([]:List Outp)))else(bif(decide (([(⟨2,n_0.id,n_0.req.id,0,([]:Str)⟩:Outp)]:List Outp).length * 48≤room))then(f0 n_0.store block fun r1=>(bif(r1.2 != 0)then(f1 (⟨n_0.id,n_0.up,r1.1,n_0.primary,n_0.state,n_0.session,n_0.peer,n_0.peerPri,(⟨false,0,0,([]:Str)⟩:Req),n_0.asking,n_0.askId,n_0.wanted,n_0.minted,n_0.draws,n_0.mints⟩:Node) fun r2=>(bif(r1.2==0)then(f2 (⟨4,r2.session,(⟨0,(⟨0,0,0,0⟩:Vec),false,false,false,false,0⟩:Hello),block,([]:Str)⟩:Packet) fun r3=>(bif(decide ((([(⟨2,n_0.id,n_0.req.id,0,([]:Str)⟩:Outp)]:List Outp).length+([(⟨1,r2.id,0,0,r3.1⟩:Outp)]:List Outp).length) * 48≤room))then(K (r2,(([(⟨2,n_0.id,n_0.req.id,0,([]:Str)⟩:Outp)]:List Outp)++([(⟨1,r2.id,0,0,r3.1⟩:Outp)]:List Outp))))else False))else(K (r2,([(⟨2,n_0.id,n_0.req.id,0,([]:Str)⟩:Outp)]:List Outp)))))else(bif(r1.2==0)then(f2 (⟨4,n_0.session,(⟨0,(⟨0,0,0,0⟩:Vec),false,false,false,false,0⟩:Hello),block,([]:Str)⟩:Packet) fun r4=>(bif(decide ((([(⟨2,n_0.id,n_0.req.id,0,([]:Str)⟩:Outp)]:List Outp).length+([(⟨1,n_0.id,0,0,r4.1⟩:Outp)]:List Outp).length) * 48≤room))then(K ((⟨n_0.id,n_0.up,r1.1,n_0.primary,n_0.state,n_0.session,n_0.peer,n_0.peerPri,(⟨false,0,0,([]:Str)⟩:Req),n_0.asking,n_0.askId,n_0.wanted,n_0.minted,n_0.draws,n_0.mints⟩:Node),(([(⟨2,n_0.id,n_0.req.id,0,([]:Str)⟩:Outp)]:List Outp)++([(⟨1,n_0.id,0,0,r4.1⟩:Outp)]:List Outp))))else False))else(K ((⟨n_0.id,n_0.up,r1.1,n_0.primary,n_0.state,n_0.session,n_0.peer,n_0.peerPri,(⟨false,0,0,([]:Str)⟩:Req),n_0.asking,n_0.askId,n_0.wanted,n_0.minted,n_0.draws,n_0.mints⟩:Node),([(⟨2,n_0.id,n_0.req.id,0,([]:Str)⟩:Outp)]:List Outp))))))else False)))
def F (n_0:Node) (block:Int) (K:(Node×(List Outp))->Prop):Prop:=FV q199.F q180.F q189.F n_0 block K
def en:Entry:=mkEntry A C fun x=>F x.1 x.2.1
theorem eqv (f0:q199.T) (f1:q180.T) (f2:q189.T) (n_0:Node) (block:Int) (K:(Node×(List Outp))->Prop):apure E (tv f0 f1 f2) (fun _=>none) 4 138 [enc (.st 13) n_0,enc (.int .i64) block] (ansK C K)=FV f0 f1 f2 n_0 block K:=by kernel_rfl
theorem loops:LoopsOk E tab (fun _=>none) 4 138:=lpn _ _ _ _
theorem det (n_0:Node) (block:Int):Det (F n_0 block):=by
 unfold F FV
 repeat' with_reducible first|exact det_ret _|exact det_false|refine det_cond _ ?_ ?_|refine det_bind (q199.det _ _) (fun _=>?_)|refine det_bind (q180.det _) (fun _=>?_)|refine det_bind (q189.det _) (fun _=>?_)
theorem edet a:Det (en a):=mkD (fun x:Dens A=>det x.1 x.2.1) a
theorem ground:Ground E tab:=gnd (tbc q199.sound (tbc q180.sound (tbc q189.sound (tab_nil _)))) (dtc q199.edet (dtc q180.edet (dtc q189.edet dtn)))
theorem sound:EntrySound E 138 en:=mkSound ground loops (by kernel_rfl) (fun x K=>eqv q199.F q180.F q189.F x.1 x.2.1 K)
end q200
namespace q201
abbrev A:List Ty:=[(.st 13),(.int .i64)]
abbrev C:=(cTwo (.st 13) (.slice (.st 11)))
abbrev T:Type:=Node->Int->((Node×(List Outp))->Prop)->Prop
def tv (f0:q199.T) (f1:q180.T):Tab:=[(46,mkEntry q199.A q199.C fun x=>f0 x.1 x.2.1),(93,mkEntry q180.A q180.C fun x=>f1 x.1)]
def tab:Tab:=tv q199.F q180.F
def FV (f0:q199.T) (f1:q180.T) (n_0:Node) (block:Int) (K:(Node×(List Outp))->Prop):Prop:=
 (f0 n_0.store block fun r1=>(bif(r1.2 != 0)then(f1 (⟨n_0.id,n_0.up,r1.1,n_0.primary,n_0.state,n_0.session,n_0.peer,n_0.peerPri,n_0.req,n_0.asking,n_0.askId,n_0.wanted,n_0.minted,n_0.draws,n_0.mints⟩:Node) fun r2=>(K (r2,([]:List Outp))))else(K ((⟨n_0.id,n_0.up,r1.1,n_0.primary,n_0.state,n_0.session,n_0.peer,n_0.peerPri,n_0.req,n_0.asking,n_0.askId,n_0.wanted,n_0.minted,n_0.draws,n_0.mints⟩:Node),([]:List Outp)))))
def F (n_0:Node) (block:Int) (K:(Node×(List Outp))->Prop):Prop:=FV q199.F q180.F n_0 block K
def en:Entry:=mkEntry A C fun x=>F x.1 x.2.1
theorem eqv (f0:q199.T) (f1:q180.T) (n_0:Node) (block:Int) (K:(Node×(List Outp))->Prop):apure E (tv f0 f1) (fun _=>none) 4 139 [enc (.st 13) n_0,enc (.int .i64) block] (ansK C K)=FV f0 f1 n_0 block K:=by kernel_rfl
theorem loops:LoopsOk E tab (fun _=>none) 4 139:=lpn _ _ _ _
theorem det (n_0:Node) (block:Int):Det (F n_0 block):=by
 unfold F FV
 repeat' with_reducible first|exact det_ret _|refine det_cond _ ?_ ?_|refine det_bind (q199.det _ _) (fun _=>?_)|refine det_bind (q180.det _) (fun _=>?_)
theorem edet a:Det (en a):=mkD (fun x:Dens A=>det x.1 x.2.1) a
theorem ground:Ground E tab:=gnd (tbc q199.sound (tbc q180.sound (tab_nil _))) (dtc q199.edet (dtc q180.edet dtn))
theorem sound:EntrySound E 139 en:=mkSound ground loops (by kernel_rfl) (fun x K=>eqv q199.F q180.F x.1 x.2.1 K)
end q201
namespace q202
abbrev A:List Ty:=[(.st 1),(.int .i64)]
abbrev C:=(cTwo .str (.int .i64))
abbrev T:Type:=Disk->Int->((Str×Int)->Prop)->Prop
def tv (f0:q194.T) (f1:Disk->Int->((Str×Int)->Prop)->Prop):Tab:=[(152,mkEntry q194.A q194.C fun x=>f0 x.1 x.2.1),(204,mkEntry [(.st 1),(.int .i64)] (cTwo .str (.int .i64)) fun x=>f1 x.1 x.2.1)]
def tab:Tab:=tv q194.F disk_Read.F
def FV (f0:q194.T) (f1:Disk->Int->((Str×Int)->Prop)->Prop) (d:Disk) (i:Int) (K:(Str×Int)->Prop):Prop:=
 (f0 d i fun r1=>(bif(!r1)then(K (([]:Str),4))else(f1 d (IntKind.i64.wrap (i+2)) fun r2=>(bif(r2.2 != 0)then(K (([]:Str),r2.2))else(bif((r2.1.length:Int) != 8)then(K (([]:Str),2))else(K (r2.1,0)))))))
def F (d:Disk) (i:Int) (K:(Str×Int)->Prop):Prop:=FV q194.F disk_Read.F d i K
def en:Entry:=mkEntry A C fun x=>F x.1 x.2.1
theorem eqv (f0:q194.T) (f1:Disk->Int->((Str×Int)->Prop)->Prop) (d:Disk) (i:Int) (K:(Str×Int)->Prop):apure E (tv f0 f1) (fun _=>none) 4 141 [enc (.st 1) d,enc (.int .i64) i] (ansK C K)=FV f0 f1 d i K:=by kernel_rfl
theorem loops:LoopsOk E tab (fun _=>none) 4 141:=lpn _ _ _ _
theorem det (d:Disk) (i:Int):Det (F d i):=by
 unfold F FV
 repeat' with_reducible first|exact det_ret _|refine det_cond _ ?_ ?_|refine det_bind (q194.det _ _) (fun _=>?_)|refine det_bind (disk_Read.det _ _) (fun _=>?_)
theorem edet a:Det (en a):=mkD (fun x:Dens A=>det x.1 x.2.1) a
theorem ground:Ground E tab:=gnd (tbc q194.sound (tbc disk_Read.sound (tab_nil _))) (dtc q194.edet (dtc disk_Read.edet dtn))
theorem sound:EntrySound E 141 en:=mkSound ground loops (by kernel_rfl) (fun x K=>eqv q194.F disk_Read.F x.1 x.2.1 K)
end q202
namespace q203
abbrev A:List Ty:=[(.st 8),(.int .i64)]
abbrev C:=(cTwo .str (.int .i64))
abbrev T:Type:=Store->Int->((Str×Int)->Prop)->Prop
def tv (f0:q202.T):Tab:=[(141,mkEntry q202.A q202.C fun x=>f0 x.1 x.2.1)]
def tab:Tab:=tv q202.F
def FV (f0:q202.T) (s:Store) (i:Int) (K:(Str×Int)->Prop):Prop:=
 (f0 s.disk i fun r1=>(K (r1.1,r1.2)))
def F (s:Store) (i:Int) (K:(Str×Int)->Prop):Prop:=FV q202.F s i K
def en:Entry:=mkEntry A C fun x=>F x.1 x.2.1
theorem eqv (f0:q202.T) (s:Store) (i:Int) (K:(Str×Int)->Prop):apure E (tv f0) (fun _=>none) 4 83 [enc (.st 8) s,enc (.int .i64) i] (ansK C K)=FV f0 s i K:=by kernel_rfl
theorem loops:LoopsOk E tab (fun _=>none) 4 83:=lpn _ _ _ _
theorem det (s:Store) (i:Int):Det (F s i):=by
 unfold F FV
 repeat' with_reducible first|exact det_ret _|refine det_bind (q202.det _ _) (fun _=>?_)
theorem edet a:Det (en a):=mkD (fun x:Dens A=>det x.1 x.2.1) a
theorem ground:Ground E tab:=gnd (tbc q202.sound (tab_nil _)) (dtc q202.edet dtn)
theorem sound:EntrySound E 83 en:=mkSound ground loops (by kernel_rfl) (fun x K=>eqv q202.F x.1 x.2.1 K)
end q203
namespace q204
abbrev A:List Ty:=[(.st 13),(.int .i64)]
abbrev C:=(cTwo (.st 13) (.slice (.st 11)))
abbrev T:Type:=Node->Int->((Node×(List Outp))->Prop)->Prop
def tv (f0:q203.T) (f1:q189.T):Tab:=[(83,mkEntry q203.A q203.C fun x=>f0 x.1 x.2.1),(106,mkEntry q189.A q189.C fun x=>f1 x.1)]
def tab:Tab:=tv q203.F q189.F
def FV (f0:q203.T) (f1:q189.T) (n_0:Node) (block:Int) (K:(Node×(List Outp))->Prop):Prop:=
 (f0 n_0.store block fun r1=>(f1 (⟨6,n_0.session,(⟨0,(⟨0,0,0,0⟩:Vec),false,false,false,false,0⟩:Hello),block,r1.1⟩:Packet) fun r2=>(bif(decide (([(⟨1,n_0.id,0,0,r2.1⟩:Outp)]:List Outp).length * 48≤room))then(K (n_0,([(⟨1,n_0.id,0,0,r2.1⟩:Outp)]:List Outp)))else False)))
def F (n_0:Node) (block:Int) (K:(Node×(List Outp))->Prop):Prop:=FV q203.F q189.F n_0 block K
def en:Entry:=mkEntry A C fun x=>F x.1 x.2.1
theorem eqv (f0:q203.T) (f1:q189.T) (n_0:Node) (block:Int) (K:(Node×(List Outp))->Prop):apure E (tv f0 f1) (fun _=>none) 4 35 [enc (.st 13) n_0,enc (.int .i64) block] (ansK C K)=FV f0 f1 n_0 block K:=by kernel_rfl
theorem loops:LoopsOk E tab (fun _=>none) 4 35:=lpn _ _ _ _
theorem det (n_0:Node) (block:Int):Det (F n_0 block):=by
 unfold F FV
 repeat' with_reducible first|exact det_ret _|exact det_false|refine det_cond _ ?_ ?_|refine det_bind (q203.det _ _) (fun _=>?_)|refine det_bind (q189.det _) (fun _=>?_)
theorem edet a:Det (en a):=mkD (fun x:Dens A=>det x.1 x.2.1) a
theorem ground:Ground E tab:=gnd (tbc q203.sound (tbc q189.sound (tab_nil _))) (dtc q203.edet (dtc q189.edet dtn))
theorem sound:EntrySound E 35 en:=mkSound ground loops (by kernel_rfl) (fun x K=>eqv q203.F q189.F x.1 x.2.1 K)
end q204
namespace q205
abbrev A:List Ty:=[(.st 13),(.int .i64),.str]
abbrev C:=(cTwo (.st 13) (.slice (.st 11)))
abbrev T:Type:=Node->Int->Str->((Node×(List Outp))->Prop)->Prop
def tv (f0:q196.T) (f1:q180.T) (f2:q199.T) (f3:q189.T) (f4:q187.T) (f5:q163.T) (f6:q179.T):Tab:=[(45,mkEntry q196.A q196.C fun x=>f0 x.1 x.2.1 x.2.2.1),(93,mkEntry q180.A q180.C fun x=>f1 x.1),(46,mkEntry q199.A q199.C fun x=>f2 x.1 x.2.1),(106,mkEntry q189.A q189.C fun x=>f3 x.1),(100,mkEntry q187.A q187.C fun x=>f4 x.1 x.2.1),(84,mkEntry q163.A q163.C fun x=>f5 x.1),(85,mkEntry q179.A q179.C fun x=>f6 x.1 x.2.1)]
def tab:Tab:=tv q196.F q180.F q199.F q189.F q187.F q163.F q179.F
def FV (f0:q196.T) (f1:q180.T) (f2:q199.T) (f3:q189.T) (f4:q187.T) (f5:q163.T) (f6:q179.T) (n_0:Node) (block:Int) (data:Str) (K:(Node×(List Outp))->Prop):Prop:=
 (bif(n_0.wanted != (IntKind.i64.wrap (block+1)))then(K (n_0,([]:List Outp)))else(f0 n_0.store block data fun r1=>(bif(r1.2 != 0)then(f1 (⟨n_0.id,n_0.up,r1.1,n_0.primary,n_0.state,n_0.session,n_0.peer,n_0.peerPri,n_0.req,n_0.asking,n_0.askId,n_0.wanted,n_0.minted,n_0.draws,n_0.mints⟩:Node) fun r2=>(bif(!(r1.2==0))then(K (r2,([]:List Outp)))else(f2 r2.store block fun r3=>(bif(r3.2 != 0)then(f1 (⟨r2.id,r2.up,r3.1,r2.primary,r2.state,r2.session,r2.peer,r2.peerPri,r2.req,r2.asking,r2.askId,r2.wanted,r2.minted,r2.draws,r2.mints⟩:Node) fun r4=>(bif(!(r3.2==0))then(K (r4,([]:List Outp)))else(f3 (⟨7,r4.session,(⟨0,(⟨0,0,0,0⟩:Vec),false,false,false,false,0⟩:Hello),block,([]:Str)⟩:Packet) fun r5=>(bif(decide (([(⟨1,r4.id,0,0,r5.1⟩:Outp)]:List Outp).length * 48≤room))then(bif(!r4.store.sup.inc)then(K ((⟨r4.id,r4.up,r4.store,r4.primary,r4.state,r4.session,r4.peer,r4.peerPri,r4.req,r4.asking,r4.askId,0,r4.minted,r4.draws,r4.mints⟩:Node),([(⟨1,r4.id,0,0,r5.1⟩:Outp)]:List Outp)))else(f4 r4.store.mask 0 fun r6=>(bif r6.2 then(f3 (⟨5,r4.session,(⟨0,(⟨0,0,0,0⟩:Vec),false,false,false,false,0⟩:Hello),r6.1,([]:Str)⟩:Packet) fun r7=>(bif(decide ((([(⟨1,r4.id,0,0,r5.1⟩:Outp)]:List Outp).length+([(⟨1,r4.id,0,0,r7.1⟩:Outp)]:List Outp).length) * 48≤room))then(K ((⟨r4.id,r4.up,r4.store,r4.primary,r4.state,r4.session,r4.peer,r4.peerPri,r4.req,r4.asking,r4.askId,(IntKind.i64.wrap (r6.1+1)),r4.minted,r4.draws,r4.mints⟩:Node),(([(⟨1,r4.id,0,0,r5.1⟩:Outp)]:List Outp)++([(⟨1,r4.id,0,0,r7.1⟩:Outp)]:List Outp))))else False))else(f5 r4.peer.vector fun r8=>(f6 r4.store (⟨r4.store.sup.blocks,r8,false,false,false⟩:Super) fun r9=>(bif(r9.2 != 0)then(f1 (⟨r4.id,r4.up,r9.1,r4.primary,r4.state,r4.session,r4.peer,r4.peerPri,r4.req,r4.asking,r4.askId,0,r4.minted,r4.draws,r4.mints⟩:Node) fun r10=>(bif(r9.2==0)then(f3 (⟨8,r10.session,(⟨0,(⟨0,0,0,0⟩:Vec),false,false,false,false,0⟩:Hello),0,([]:Str)⟩:Packet) fun r11=>(bif(decide ((([(⟨1,r4.id,0,0,r5.1⟩:Outp)]:List Outp).length+([(⟨1,r10.id,0,0,r11.1⟩:Outp)]:List Outp).length) * 48≤room))then(K (r10,(([(⟨1,r4.id,0,0,r5.1⟩:Outp)]:List Outp)++([(⟨1,r10.id,0,0,r11.1⟩:Outp)]:List Outp))))else False))else(K (r10,([(⟨1,r4.id,0,0,r5.1⟩:Outp)]:List Outp)))))else(bif(r9.2==0)then(f3 (⟨8,r4.session,(⟨0,(⟨0,0,0,0⟩:Vec),false,false,false,false,0⟩:Hello),0,([]:Str)⟩:Packet) fun r12=>(bif(decide ((([(⟨1,r4.id,0,0,r5.1⟩:Outp)]:List Outp).length+([(⟨1,r4.id,0,0,r12.1⟩:Outp)]:List Outp).length) * 48≤room))then(K ((⟨r4.id,r4.up,r9.1,r4.primary,r4.state,r4.session,r4.peer,r4.peerPri,r4.req,r4.asking,r4.askId,0,r4.minted,r4.draws,r4.mints⟩:Node),(([(⟨1,r4.id,0,0,r5.1⟩:Outp)]:List Outp)++([(⟨1,r4.id,0,0,r12.1⟩:Outp)]:List Outp))))else False))else(K ((⟨r4.id,r4.up,r9.1,r4.primary,r4.state,r4.session,r4.peer,r4.peerPri,r4.req,r4.asking,r4.askId,0,r4.minted,r4.draws,r4.mints⟩:Node),([(⟨1,r4.id,0,0,r5.1⟩:Outp)]:List Outp))))))))))else False))))else(bif(!(r3.2==0))then(K ((⟨r2.id,r2.up,r3.1,r2.primary,r2.state,r2.session,r2.peer,r2.peerPri,r2.req,r2.asking,r2.askId,r2.wanted,r2.minted,r2.draws,r2.mints⟩:Node),([]:List Outp)))else(f3 (⟨7,r2.session,(⟨0,(⟨0,0,0,0⟩:Vec),false,false,false,false,0⟩:Hello),block,([]:Str)⟩:Packet) fun r13=>(bif(decide (([(⟨1,r2.id,0,0,r13.1⟩:Outp)]:List Outp).length * 48≤room))then(bif(!r3.1.sup.inc)then(K ((⟨r2.id,r2.up,r3.1,r2.primary,r2.state,r2.session,r2.peer,r2.peerPri,r2.req,r2.asking,r2.askId,0,r2.minted,r2.draws,r2.mints⟩:Node),([(⟨1,r2.id,0,0,r13.1⟩:Outp)]:List Outp)))else(f4 r3.1.mask 0 fun r14=>(bif r14.2 then(f3 (⟨5,r2.session,(⟨0,(⟨0,0,0,0⟩:Vec),false,false,false,false,0⟩:Hello),r14.1,([]:Str)⟩:Packet) fun r15=>(bif(decide ((([(⟨1,r2.id,0,0,r13.1⟩:Outp)]:List Outp).length+([(⟨1,r2.id,0,0,r15.1⟩:Outp)]:List Outp).length) * 48≤room))then(K ((⟨r2.id,r2.up,r3.1,r2.primary,r2.state,r2.session,r2.peer,r2.peerPri,r2.req,r2.asking,r2.askId,(IntKind.i64.wrap (r14.1+1)),r2.minted,r2.draws,r2.mints⟩:Node),(([(⟨1,r2.id,0,0,r13.1⟩:Outp)]:List Outp)++([(⟨1,r2.id,0,0,r15.1⟩:Outp)]:List Outp))))else False))else(f5 r2.peer.vector fun r16=>(f6 r3.1 (⟨r3.1.sup.blocks,r16,false,false,false⟩:Super) fun r17=>(bif(r17.2 != 0)then(f1 (⟨r2.id,r2.up,r17.1,r2.primary,r2.state,r2.session,r2.peer,r2.peerPri,r2.req,r2.asking,r2.askId,0,r2.minted,r2.draws,r2.mints⟩:Node) fun r18=>(bif(r17.2==0)then(f3 (⟨8,r18.session,(⟨0,(⟨0,0,0,0⟩:Vec),false,false,false,false,0⟩:Hello),0,([]:Str)⟩:Packet) fun r19=>(bif(decide ((([(⟨1,r2.id,0,0,r13.1⟩:Outp)]:List Outp).length+([(⟨1,r18.id,0,0,r19.1⟩:Outp)]:List Outp).length) * 48≤room))then(K (r18,(([(⟨1,r2.id,0,0,r13.1⟩:Outp)]:List Outp)++([(⟨1,r18.id,0,0,r19.1⟩:Outp)]:List Outp))))else False))else(K (r18,([(⟨1,r2.id,0,0,r13.1⟩:Outp)]:List Outp)))))else(bif(r17.2==0)then(f3 (⟨8,r2.session,(⟨0,(⟨0,0,0,0⟩:Vec),false,false,false,false,0⟩:Hello),0,([]:Str)⟩:Packet) fun r20=>(bif(decide ((([(⟨1,r2.id,0,0,r13.1⟩:Outp)]:List Outp).length+([(⟨1,r2.id,0,0,r20.1⟩:Outp)]:List Outp).length) * 48≤room))then(K ((⟨r2.id,r2.up,r17.1,r2.primary,r2.state,r2.session,r2.peer,r2.peerPri,r2.req,r2.asking,r2.askId,0,r2.minted,r2.draws,r2.mints⟩:Node),(([(⟨1,r2.id,0,0,r13.1⟩:Outp)]:List Outp)++([(⟨1,r2.id,0,0,r20.1⟩:Outp)]:List Outp))))else False))else(K ((⟨r2.id,r2.up,r17.1,r2.primary,r2.state,r2.session,r2.peer,r2.peerPri,r2.req,r2.asking,r2.askId,0,r2.minted,r2.draws,r2.mints⟩:Node),([(⟨1,r2.id,0,0,r13.1⟩:Outp)]:List Outp))))))))))else False)))))))else(bif(!(r1.2==0))then(K ((⟨n_0.id,n_0.up,r1.1,n_0.primary,n_0.state,n_0.session,n_0.peer,n_0.peerPri,n_0.req,n_0.asking,n_0.askId,n_0.wanted,n_0.minted,n_0.draws,n_0.mints⟩:Node),([]:List Outp)))else(f2 r1.1 block fun r21=>(bif(r21.2 != 0)then(f1 (⟨n_0.id,n_0.up,r21.1,n_0.primary,n_0.state,n_0.session,n_0.peer,n_0.peerPri,n_0.req,n_0.asking,n_0.askId,n_0.wanted,n_0.minted,n_0.draws,n_0.mints⟩:Node) fun r22=>(bif(!(r21.2==0))then(K (r22,([]:List Outp)))else(f3 (⟨7,r22.session,(⟨0,(⟨0,0,0,0⟩:Vec),false,false,false,false,0⟩:Hello),block,([]:Str)⟩:Packet) fun r23=>(bif(decide (([(⟨1,r22.id,0,0,r23.1⟩:Outp)]:List Outp).length * 48≤room))then(bif(!r22.store.sup.inc)then(K ((⟨r22.id,r22.up,r22.store,r22.primary,r22.state,r22.session,r22.peer,r22.peerPri,r22.req,r22.asking,r22.askId,0,r22.minted,r22.draws,r22.mints⟩:Node),([(⟨1,r22.id,0,0,r23.1⟩:Outp)]:List Outp)))else(f4 r22.store.mask 0 fun r24=>(bif r24.2 then(f3 (⟨5,r22.session,(⟨0,(⟨0,0,0,0⟩:Vec),false,false,false,false,0⟩:Hello),r24.1,([]:Str)⟩:Packet) fun r25=>(bif(decide ((([(⟨1,r22.id,0,0,r23.1⟩:Outp)]:List Outp).length+([(⟨1,r22.id,0,0,r25.1⟩:Outp)]:List Outp).length) * 48≤room))then(K ((⟨r22.id,r22.up,r22.store,r22.primary,r22.state,r22.session,r22.peer,r22.peerPri,r22.req,r22.asking,r22.askId,(IntKind.i64.wrap (r24.1+1)),r22.minted,r22.draws,r22.mints⟩:Node),(([(⟨1,r22.id,0,0,r23.1⟩:Outp)]:List Outp)++([(⟨1,r22.id,0,0,r25.1⟩:Outp)]:List Outp))))else False))else(f5 r22.peer.vector fun r26=>(f6 r22.store (⟨r22.store.sup.blocks,r26,false,false,false⟩:Super) fun r27=>(bif(r27.2 != 0)then(f1 (⟨r22.id,r22.up,r27.1,r22.primary,r22.state,r22.session,r22.peer,r22.peerPri,r22.req,r22.asking,r22.askId,0,r22.minted,r22.draws,r22.mints⟩:Node) fun r28=>(bif(r27.2==0)then(f3 (⟨8,r28.session,(⟨0,(⟨0,0,0,0⟩:Vec),false,false,false,false,0⟩:Hello),0,([]:Str)⟩:Packet) fun r29=>(bif(decide ((([(⟨1,r22.id,0,0,r23.1⟩:Outp)]:List Outp).length+([(⟨1,r28.id,0,0,r29.1⟩:Outp)]:List Outp).length) * 48≤room))then(K (r28,(([(⟨1,r22.id,0,0,r23.1⟩:Outp)]:List Outp)++([(⟨1,r28.id,0,0,r29.1⟩:Outp)]:List Outp))))else False))else(K (r28,([(⟨1,r22.id,0,0,r23.1⟩:Outp)]:List Outp)))))else(bif(r27.2==0)then(f3 (⟨8,r22.session,(⟨0,(⟨0,0,0,0⟩:Vec),false,false,false,false,0⟩:Hello),0,([]:Str)⟩:Packet) fun r30=>(bif(decide ((([(⟨1,r22.id,0,0,r23.1⟩:Outp)]:List Outp).length+([(⟨1,r22.id,0,0,r30.1⟩:Outp)]:List Outp).length) * 48≤room))then(K ((⟨r22.id,r22.up,r27.1,r22.primary,r22.state,r22.session,r22.peer,r22.peerPri,r22.req,r22.asking,r22.askId,0,r22.minted,r22.draws,r22.mints⟩:Node),(([(⟨1,r22.id,0,0,r23.1⟩:Outp)]:List Outp)++([(⟨1,r22.id,0,0,r30.1⟩:Outp)]:List Outp))))else False))else(K ((⟨r22.id,r22.up,r27.1,r22.primary,r22.state,r22.session,r22.peer,r22.peerPri,r22.req,r22.asking,r22.askId,0,r22.minted,r22.draws,r22.mints⟩:Node),([(⟨1,r22.id,0,0,r23.1⟩:Outp)]:List Outp))))))))))else False))))else(bif(!(r21.2==0))then(K ((⟨n_0.id,n_0.up,r21.1,n_0.primary,n_0.state,n_0.session,n_0.peer,n_0.peerPri,n_0.req,n_0.asking,n_0.askId,n_0.wanted,n_0.minted,n_0.draws,n_0.mints⟩:Node),([]:List Outp)))else(f3 (⟨7,n_0.session,(⟨0,(⟨0,0,0,0⟩:Vec),false,false,false,false,0⟩:Hello),block,([]:Str)⟩:Packet) fun r31=>(bif(decide (([(⟨1,n_0.id,0,0,r31.1⟩:Outp)]:List Outp).length * 48≤room))then(bif(!r21.1.sup.inc)then(K ((⟨n_0.id,n_0.up,r21.1,n_0.primary,n_0.state,n_0.session,n_0.peer,n_0.peerPri,n_0.req,n_0.asking,n_0.askId,0,n_0.minted,n_0.draws,n_0.mints⟩:Node),([(⟨1,n_0.id,0,0,r31.1⟩:Outp)]:List Outp)))else(f4 r21.1.mask 0 fun r32=>(bif r32.2 then(f3 (⟨5,n_0.session,(⟨0,(⟨0,0,0,0⟩:Vec),false,false,false,false,0⟩:Hello),r32.1,([]:Str)⟩:Packet) fun r33=>(bif(decide ((([(⟨1,n_0.id,0,0,r31.1⟩:Outp)]:List Outp).length+([(⟨1,n_0.id,0,0,r33.1⟩:Outp)]:List Outp).length) * 48≤room))then(K ((⟨n_0.id,n_0.up,r21.1,n_0.primary,n_0.state,n_0.session,n_0.peer,n_0.peerPri,n_0.req,n_0.asking,n_0.askId,(IntKind.i64.wrap (r32.1+1)),n_0.minted,n_0.draws,n_0.mints⟩:Node),(([(⟨1,n_0.id,0,0,r31.1⟩:Outp)]:List Outp)++([(⟨1,n_0.id,0,0,r33.1⟩:Outp)]:List Outp))))else False))else(f5 n_0.peer.vector fun r34=>(f6 r21.1 (⟨r21.1.sup.blocks,r34,false,false,false⟩:Super) fun r35=>(bif(r35.2 != 0)then(f1 (⟨n_0.id,n_0.up,r35.1,n_0.primary,n_0.state,n_0.session,n_0.peer,n_0.peerPri,n_0.req,n_0.asking,n_0.askId,0,n_0.minted,n_0.draws,n_0.mints⟩:Node) fun r36=>(bif(r35.2==0)then(f3 (⟨8,r36.session,(⟨0,(⟨0,0,0,0⟩:Vec),false,false,false,false,0⟩:Hello),0,([]:Str)⟩:Packet) fun r37=>(bif(decide ((([(⟨1,n_0.id,0,0,r31.1⟩:Outp)]:List Outp).length+([(⟨1,r36.id,0,0,r37.1⟩:Outp)]:List Outp).length) * 48≤room))then(K (r36,(([(⟨1,n_0.id,0,0,r31.1⟩:Outp)]:List Outp)++([(⟨1,r36.id,0,0,r37.1⟩:Outp)]:List Outp))))else False))else(K (r36,([(⟨1,n_0.id,0,0,r31.1⟩:Outp)]:List Outp)))))else(bif(r35.2==0)then(f3 (⟨8,n_0.session,(⟨0,(⟨0,0,0,0⟩:Vec),false,false,false,false,0⟩:Hello),0,([]:Str)⟩:Packet) fun r38=>(bif(decide ((([(⟨1,n_0.id,0,0,r31.1⟩:Outp)]:List Outp).length+([(⟨1,n_0.id,0,0,r38.1⟩:Outp)]:List Outp).length) * 48≤room))then(K ((⟨n_0.id,n_0.up,r35.1,n_0.primary,n_0.state,n_0.session,n_0.peer,n_0.peerPri,n_0.req,n_0.asking,n_0.askId,0,n_0.minted,n_0.draws,n_0.mints⟩:Node),(([(⟨1,n_0.id,0,0,r31.1⟩:Outp)]:List Outp)++([(⟨1,n_0.id,0,0,r38.1⟩:Outp)]:List Outp))))else False))else(K ((⟨n_0.id,n_0.up,r35.1,n_0.primary,n_0.state,n_0.session,n_0.peer,n_0.peerPri,n_0.req,n_0.asking,n_0.askId,0,n_0.minted,n_0.draws,n_0.mints⟩:Node),([(⟨1,n_0.id,0,0,r31.1⟩:Outp)]:List Outp))))))))))else False)))))))))
def F (n_0:Node) (block:Int) (data:Str) (K:(Node×(List Outp))->Prop):Prop:=FV q196.F q180.F q199.F q189.F q187.F q163.F q179.F n_0 block data K
def en:Entry:=mkEntry A C fun x=>F x.1 x.2.1 x.2.2.1
theorem eqv (f0:q196.T) (f1:q180.T) (f2:q199.T) (f3:q189.T) (f4:q187.T) (f5:q163.T) (f6:q179.T) (n_0:Node) (block:Int) (data:Str) (K:(Node×(List Outp))->Prop):apure E (tv f0 f1 f2 f3 f4 f5 f6) (fun _=>none) 4 14 [enc (.st 13) n_0,enc (.int .i64) block,enc .str data] (ansK C K)=FV f0 f1 f2 f3 f4 f5 f6 n_0 block data K:=by kernel_rfl
theorem loops:LoopsOk E tab (fun _=>none) 4 14:=lpn _ _ _ _
theorem det (n_0:Node) (block:Int) (data:Str):Det (F n_0 block data):=by
 unfold F FV
 repeat' with_reducible first|exact det_ret _|exact det_false|refine det_cond _ ?_ ?_|refine det_bind (q196.det _ _ _) (fun _=>?_)|refine det_bind (q180.det _) (fun _=>?_)|refine det_bind (q199.det _ _) (fun _=>?_)|refine det_bind (q189.det _) (fun _=>?_)|refine det_bind (q187.det _ _) (fun _=>?_)|refine det_bind (q163.det _) (fun _=>?_)|refine det_bind (q179.det _ _) (fun _=>?_)
theorem edet a:Det (en a):=mkD (fun x:Dens A=>det x.1 x.2.1 x.2.2.1) a
theorem ground:Ground E tab:=gnd (tbc q196.sound (tbc q180.sound (tbc q199.sound (tbc q189.sound (tbc q187.sound (tbc q163.sound (tbc q179.sound (tab_nil _)))))))) (dtc q196.edet (dtc q180.edet (dtc q199.edet (dtc q189.edet (dtc q187.edet (dtc q163.edet (dtc q179.edet dtn)))))))
theorem sound:EntrySound E 14 en:=mkSound ground loops (by kernel_rfl) (fun x K=>eqv q196.F q180.F q199.F q189.F q187.F q163.F q179.F x.1 x.2.1 x.2.2.1 K)
end q205
namespace q206
abbrev A:List Ty:=[(.st 13),(.int .i64)]
abbrev C:=(cTwo (.st 13) (.slice (.st 11)))
abbrev T:Type:=Node->Int->((Node×(List Outp))->Prop)->Prop
def tv (f0:q199.T) (f1:q180.T):Tab:=[(46,mkEntry q199.A q199.C fun x=>f0 x.1 x.2.1),(93,mkEntry q180.A q180.C fun x=>f1 x.1)]
def tab:Tab:=tv q199.F q180.F
def FV (f0:q199.T) (f1:q180.T) (n_0:Node) (block:Int) (K:(Node×(List Outp))->Prop):Prop:=
 (bif(!n_0.req.on)then(f0 n_0.store block fun r1=>(bif(r1.2 != 0)then(f1 (⟨n_0.id,n_0.up,r1.1,n_0.primary,n_0.state,n_0.session,n_0.peer,n_0.peerPri,n_0.req,n_0.asking,n_0.askId,n_0.wanted,n_0.minted,n_0.draws,n_0.mints⟩:Node) fun r2=>(K (r2,([]:List Outp))))else(K ((⟨n_0.id,n_0.up,r1.1,n_0.primary,n_0.state,n_0.session,n_0.peer,n_0.peerPri,n_0.req,n_0.asking,n_0.askId,n_0.wanted,n_0.minted,n_0.draws,n_0.mints⟩:Node),([]:List Outp)))))else(bif(n_0.req.block != block)then(f0 n_0.store block fun r3=>(bif(r3.2 != 0)then(f1 (⟨n_0.id,n_0.up,r3.1,n_0.primary,n_0.state,n_0.session,n_0.peer,n_0.peerPri,n_0.req,n_0.asking,n_0.askId,n_0.wanted,n_0.minted,n_0.draws,n_0.mints⟩:Node) fun r4=>(K (r4,([]:List Outp))))else(K ((⟨n_0.id,n_0.up,r3.1,n_0.primary,n_0.state,n_0.session,n_0.peer,n_0.peerPri,n_0.req,n_0.asking,n_0.askId,n_0.wanted,n_0.minted,n_0.draws,n_0.mints⟩:Node),([]:List Outp)))))else(K (n_0,([]:List Outp)))))
def F (n_0:Node) (block:Int) (K:(Node×(List Outp))->Prop):Prop:=FV q199.F q180.F n_0 block K
def en:Entry:=mkEntry A C fun x=>F x.1 x.2.1
theorem eqv (f0:q199.T) (f1:q180.T) (n_0:Node) (block:Int) (K:(Node×(List Outp))->Prop):apure E (tv f0 f1) (fun _=>none) 4 36 [enc (.st 13) n_0,enc (.int .i64) block] (ansK C K)=FV f0 f1 n_0 block K:=by kernel_rfl
theorem loops:LoopsOk E tab (fun _=>none) 4 36:=lpn _ _ _ _
theorem det (n_0:Node) (block:Int):Det (F n_0 block):=by
 unfold F FV
 repeat' with_reducible first|exact det_ret _|refine det_cond _ ?_ ?_|refine det_bind (q199.det _ _) (fun _=>?_)|refine det_bind (q180.det _) (fun _=>?_)
theorem edet a:Det (en a):=mkD (fun x:Dens A=>det x.1 x.2.1) a
theorem ground:Ground E tab:=gnd (tbc q199.sound (tbc q180.sound (tab_nil _))) (dtc q199.edet (dtc q180.edet dtn))
theorem sound:EntrySound E 36 en:=mkSound ground loops (by kernel_rfl) (fun x K=>eqv q199.F q180.F x.1 x.2.1 K)
end q206
namespace q207
abbrev A:List Ty:=[(.st 13)]
abbrev C:=(cTwo (.st 13) (.slice (.st 11)))
abbrev T:Type:=Node->((Node×(List Outp))->Prop)->Prop
def tv (f0:q163.T) (f1:q179.T) (f2:q180.T) (f3:q189.T):Tab:=[(84,mkEntry q163.A q163.C fun x=>f0 x.1),(85,mkEntry q179.A q179.C fun x=>f1 x.1 x.2.1),(93,mkEntry q180.A q180.C fun x=>f2 x.1),(106,mkEntry q189.A q189.C fun x=>f3 x.1)]
def tab:Tab:=tv q163.F q179.F q180.F q189.F
def FV (f0:q163.T) (f1:q179.T) (f2:q180.T) (f3:q189.T) (n_0:Node) (K:(Node×(List Outp))->Prop):Prop:=
 (f0 n_0.store.sup.vector fun r1=>(f1 n_0.store (⟨n_0.store.sup.blocks,r1,n_0.store.sup.inc,n_0.primary,n_0.store.sup.dis⟩:Super) fun r2=>(bif(r2.2 != 0)then(f2 (⟨n_0.id,n_0.up,r2.1,n_0.primary,n_0.state,n_0.session,n_0.peer,n_0.peerPri,n_0.req,n_0.asking,n_0.askId,n_0.wanted,n_0.minted,n_0.draws,n_0.mints⟩:Node) fun r3=>(bif(r2.2==0)then(f3 (⟨9,r3.session,(⟨0,(⟨0,0,0,0⟩:Vec),false,false,false,false,0⟩:Hello),0,([]:Str)⟩:Packet) fun r4=>(bif(decide (([(⟨1,r3.id,0,0,r4.1⟩:Outp)]:List Outp).length * 48≤room))then(K ((⟨r3.id,r3.up,r3.store,r3.primary,2,r3.session,r3.peer,r3.peerPri,r3.req,r3.asking,r3.askId,r3.wanted,r3.minted,r3.draws,r3.mints⟩:Node),([(⟨1,r3.id,0,0,r4.1⟩:Outp)]:List Outp)))else False))else(K (r3,([]:List Outp)))))else(bif(r2.2==0)then(f3 (⟨9,n_0.session,(⟨0,(⟨0,0,0,0⟩:Vec),false,false,false,false,0⟩:Hello),0,([]:Str)⟩:Packet) fun r5=>(bif(decide (([(⟨1,n_0.id,0,0,r5.1⟩:Outp)]:List Outp).length * 48≤room))then(K ((⟨n_0.id,n_0.up,r2.1,n_0.primary,2,n_0.session,n_0.peer,n_0.peerPri,n_0.req,n_0.asking,n_0.askId,n_0.wanted,n_0.minted,n_0.draws,n_0.mints⟩:Node),([(⟨1,n_0.id,0,0,r5.1⟩:Outp)]:List Outp)))else False))else(K ((⟨n_0.id,n_0.up,r2.1,n_0.primary,n_0.state,n_0.session,n_0.peer,n_0.peerPri,n_0.req,n_0.asking,n_0.askId,n_0.wanted,n_0.minted,n_0.draws,n_0.mints⟩:Node),([]:List Outp)))))))
def F (n_0:Node) (K:(Node×(List Outp))->Prop):Prop:=FV q163.F q179.F q180.F q189.F n_0 K
def en:Entry:=mkEntry A C fun x=>F x.1
theorem eqv (f0:q163.T) (f1:q179.T) (f2:q180.T) (f3:q189.T) (n_0:Node) (K:(Node×(List Outp))->Prop):apure E (tv f0 f1 f2 f3) (fun _=>none) 4 37 [enc (.st 13) n_0] (ansK C K)=FV f0 f1 f2 f3 n_0 K:=by kernel_rfl
theorem loops:LoopsOk E tab (fun _=>none) 4 37:=lpn _ _ _ _
theorem det (n_0:Node):Det (F n_0):=by
 unfold F FV
 repeat' with_reducible first|exact det_ret _|exact det_false|refine det_cond _ ?_ ?_|refine det_bind (q163.det _) (fun _=>?_)|refine det_bind (q179.det _ _) (fun _=>?_)|refine det_bind (q180.det _) (fun _=>?_)|refine det_bind (q189.det _) (fun _=>?_)
theorem edet a:Det (en a):=mkD (fun x:Dens A=>det x.1) a
theorem ground:Ground E tab:=gnd (tbc q163.sound (tbc q179.sound (tbc q180.sound (tbc q189.sound (tab_nil _))))) (dtc q163.edet (dtc q179.edet (dtc q180.edet (dtc q189.edet dtn))))
theorem sound:EntrySound E 37 en:=mkSound ground loops (by kernel_rfl) (fun x K=>eqv q163.F q179.F q180.F q189.F x.1 K)
end q207
namespace q208
abbrev A:List Ty:=[(.st 13)]
abbrev C:=(cTy (.st 13))
abbrev T:Type:=Node->(Node->Prop)->Prop
def tab:Tab:=[]
def F (n_0:Node) (K:Node->Prop):Prop:=
 (K (⟨n_0.id,n_0.up,n_0.store,n_0.primary,2,n_0.session,n_0.peer,n_0.peerPri,n_0.req,n_0.asking,n_0.askId,n_0.wanted,n_0.minted,n_0.draws,n_0.mints⟩:Node))
def en:Entry:=mkEntry A C fun x=>F x.1
theorem eqv (n_0:Node) (K:Node->Prop):apure E tab (fun _=>none) 4 38 [enc (.st 13) n_0] (ansK C K)=F n_0 K:=by kernel_rfl
theorem loops:LoopsOk E tab (fun _=>none) 4 38:=lpn _ _ _ _
theorem det (n_0:Node):Det (F n_0):=by
 unfold F
 repeat' with_reducible first|exact det_ret _
theorem edet a:Det (en a):=mkD (fun x:Dens A=>det x.1) a
theorem ground:Ground E tab:=gnd (tab_nil _) dtn
theorem sound:EntrySound E 38 en:=mkSound ground loops (by kernel_rfl) (fun x K=>eqv  x.1 K)
end q208
namespace q209
abbrev A:List Ty:=[(.st 13),(.int .i64)]
abbrev C:=(cTwo (.st 13) (.slice (.st 11)))
abbrev T:Type:=Node->Int->((Node×(List Outp))->Prop)->Prop
def tv (f0:q189.T) (f1:q179.T) (f2:q180.T):Tab:=[(106,mkEntry q189.A q189.C fun x=>f0 x.1),(85,mkEntry q179.A q179.C fun x=>f1 x.1 x.2.1),(93,mkEntry q180.A q180.C fun x=>f2 x.1)]
def tab:Tab:=tv q189.F q179.F q180.F
def FV (f0:q189.T) (f1:q179.T) (f2:q180.T) (n_0:Node) (kind:Int) (K:(Node×(List Outp))->Prop):Prop:=
 (bif(kind==10)then(bif n_0.primary then(f0 (⟨12,n_0.session,(⟨0,(⟨0,0,0,0⟩:Vec),false,false,false,false,0⟩:Hello),0,([]:Str)⟩:Packet) fun r1=>(bif(decide (([(⟨1,n_0.id,0,0,r1.1⟩:Outp)]:List Outp).length * 48≤room))then(K (n_0,([(⟨1,n_0.id,0,0,r1.1⟩:Outp)]:List Outp)))else False))else(bif n_0.asking then(f0 (⟨12,n_0.session,(⟨0,(⟨0,0,0,0⟩:Vec),false,false,false,false,0⟩:Hello),0,([]:Str)⟩:Packet) fun r2=>(bif(decide (([(⟨1,n_0.id,0,0,r2.1⟩:Outp)]:List Outp).length * 48≤room))then(K (n_0,([(⟨1,n_0.id,0,0,r2.1⟩:Outp)]:List Outp)))else False))else(f0 (⟨11,n_0.session,(⟨0,(⟨0,0,0,0⟩:Vec),false,false,false,false,0⟩:Hello),0,([]:Str)⟩:Packet) fun r3=>(bif(decide (([(⟨1,n_0.id,0,0,r3.1⟩:Outp)]:List Outp).length * 48≤room))then(K ((⟨n_0.id,n_0.up,n_0.store,n_0.primary,n_0.state,n_0.session,n_0.peer,true,n_0.req,n_0.asking,n_0.askId,n_0.wanted,n_0.minted,n_0.draws,n_0.mints⟩:Node),([(⟨1,n_0.id,0,0,r3.1⟩:Outp)]:List Outp)))else False))))else(bif(kind==11)then(f1 n_0.store (⟨n_0.store.sup.blocks,n_0.store.sup.vector,n_0.store.sup.inc,true,n_0.store.sup.dis⟩:Super) fun r4=>(bif(r4.2 != 0)then(f2 (⟨n_0.id,n_0.up,r4.1,n_0.primary,n_0.state,n_0.session,n_0.peer,n_0.peerPri,n_0.req,n_0.asking,n_0.askId,n_0.wanted,n_0.minted,n_0.draws,n_0.mints⟩:Node) fun r5=>(bif(!(r4.2==0))then(K (r5,([]:List Outp)))else(bif(decide (([(⟨2,r5.id,n_0.askId,0,([]:Str)⟩:Outp)]:List Outp).length * 48≤room))then(K ((⟨r5.id,r5.up,r5.store,true,r5.state,r5.session,r5.peer,r5.peerPri,r5.req,false,0,r5.wanted,r5.minted,r5.draws,r5.mints⟩:Node),([(⟨2,r5.id,n_0.askId,0,([]:Str)⟩:Outp)]:List Outp)))else False)))else(bif(!(r4.2==0))then(K ((⟨n_0.id,n_0.up,r4.1,n_0.primary,n_0.state,n_0.session,n_0.peer,n_0.peerPri,n_0.req,n_0.asking,n_0.askId,n_0.wanted,n_0.minted,n_0.draws,n_0.mints⟩:Node),([]:List Outp)))else(bif(decide (([(⟨2,n_0.id,n_0.askId,0,([]:Str)⟩:Outp)]:List Outp).length * 48≤room))then(K ((⟨n_0.id,n_0.up,r4.1,true,n_0.state,n_0.session,n_0.peer,n_0.peerPri,n_0.req,false,0,n_0.wanted,n_0.minted,n_0.draws,n_0.mints⟩:Node),([(⟨2,n_0.id,n_0.askId,0,([]:Str)⟩:Outp)]:List Outp)))else False))))else(bif(kind==12)then(bif(decide (([(⟨2,n_0.id,n_0.askId,12,([]:Str)⟩:Outp)]:List Outp).length * 48≤room))then(K ((⟨n_0.id,n_0.up,n_0.store,n_0.primary,n_0.state,n_0.session,n_0.peer,n_0.peerPri,n_0.req,false,0,n_0.wanted,n_0.minted,n_0.draws,n_0.mints⟩:Node),([(⟨2,n_0.id,n_0.askId,12,([]:Str)⟩:Outp)]:List Outp)))else False)else(bif(kind==13)then(K ((⟨n_0.id,n_0.up,n_0.store,n_0.primary,n_0.state,n_0.session,n_0.peer,false,n_0.req,n_0.asking,n_0.askId,n_0.wanted,n_0.minted,n_0.draws,n_0.mints⟩:Node),([]:List Outp)))else(K (n_0,([]:List Outp)))))))
def F (n_0:Node) (kind:Int) (K:(Node×(List Outp))->Prop):Prop:=FV q189.F q179.F q180.F n_0 kind K
def en:Entry:=mkEntry A C fun x=>F x.1 x.2.1
theorem eqv (f0:q189.T) (f1:q179.T) (f2:q180.T) (n_0:Node) (kind:Int) (K:(Node×(List Outp))->Prop):apure E (tv f0 f1 f2) (fun _=>none) 4 140 [enc (.st 13) n_0,enc (.int .i64) kind] (ansK C K)=FV f0 f1 f2 n_0 kind K:=by kernel_rfl
theorem loops:LoopsOk E tab (fun _=>none) 4 140:=lpn _ _ _ _
theorem det (n_0:Node) (kind:Int):Det (F n_0 kind):=by
 unfold F FV
 repeat' with_reducible first|exact det_ret _|exact det_false|refine det_cond _ ?_ ?_|refine det_bind (q189.det _) (fun _=>?_)|refine det_bind (q179.det _ _) (fun _=>?_)|refine det_bind (q180.det _) (fun _=>?_)
theorem edet a:Det (en a):=mkD (fun x:Dens A=>det x.1 x.2.1) a
theorem ground:Ground E tab:=gnd (tbc q189.sound (tbc q179.sound (tbc q180.sound (tab_nil _)))) (dtc q189.edet (dtc q179.edet (dtc q180.edet dtn)))
theorem sound:EntrySound E 140 en:=mkSound ground loops (by kernel_rfl) (fun x K=>eqv q189.F q179.F q180.F x.1 x.2.1 K)
end q209
end Gm
end
