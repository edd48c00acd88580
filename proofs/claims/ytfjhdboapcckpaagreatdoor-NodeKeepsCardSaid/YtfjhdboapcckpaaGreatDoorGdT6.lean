/- Printed by a program (gen.py): the functions' answers, and that they are so. -/
import Derived.Test.YtfjhdboapcckpaaGreatDoorGdT5
set_option linter.unusedVariables false
set_option maxRecDepth 100000
noncomputable section
namespace Gm
open Go Go.Proofs
namespace q160
abbrev A:List Ty:=[(.st 4),(.st 4)]
abbrev C:=(cTy (.st 17))
abbrev T:Type:=Hello->Hello->(Verdict->Prop)->Prop
def tv (f0:q156.T) (f1:q158.T) (f2:q159.T) (f3:q157.T):Tab:=[(241,mkEntry q156.A q156.C fun _=>f0),(243,mkEntry q158.A q158.C fun x=>f1 x.1 x.2.1),(242,mkEntry q159.A q159.C fun x=>f2 x.1 x.2.1 x.2.2.1),(244,mkEntry q157.A q157.C fun x=>f3 x.1 x.2.1)]
def tab:Tab:=tv q156.F q158.F q159.F q157.F
def FV (f0:q156.T) (f1:q158.T) (f2:q159.T) (f3:q157.T) (x_0:Hello) (y:Hello) (K:Verdict->Prop):Prop:=
 (bif(x_0.blocks != y.blocks)then(f0 fun r1=>(K r1))else(bif x_0.pri then(bif y.pri then(f0 fun r2=>(K r2))else(bif x_0.inc then(bif y.inc then(f0 fun r3=>(K r3))else(bif x_0.dis then(bif y.dis then(f0 fun r4=>(K r4))else(bif x_0.inc then(f1 y x_0 fun r5=>(f2 r5 1 x_0 fun r6=>(K r6)))else(bif y.inc then(f1 x_0 y fun r7=>(f2 r7 0 y fun r8=>(K r8)))else(bif x_0.dis then(f2 3 1 x_0 fun r9=>(K r9))else(bif y.dis then(f2 3 0 y fun r10=>(K r10))else(bif(x_0.vector.current==y.vector.current)then(bif(x_0.mask==0)then(bif(y.mask==0)then(K (⟨1,(-1)⟩:Verdict))else(bif y.pri then(f2 2 1 x_0 fun r11=>(K r11))else(bif(!x_0.pri)then(bif y.was then(bif(!x_0.was)then(f2 2 1 x_0 fun r12=>(K r12))else(f2 2 0 y fun r13=>(K r13)))else(f2 2 0 y fun r14=>(K r14)))else(f2 2 0 y fun r15=>(K r15)))))else(bif y.pri then(f2 2 1 x_0 fun r16=>(K r16))else(bif(!x_0.pri)then(bif y.was then(bif(!x_0.was)then(f2 2 1 x_0 fun r17=>(K r17))else(f2 2 0 y fun r18=>(K r18)))else(f2 2 0 y fun r19=>(K r19)))else(f2 2 0 y fun r20=>(K r20)))))else(f3 x_0.vector y.vector.current fun r21=>(f3 y.vector x_0.vector.current fun r22=>(bif(decide (r21 > 0))then(bif(decide (r22 < 0))then(bif(r21==0)then(f2 4 0 y fun r26=>(K r26))else(bif(r21==1)then(f2 2 0 y fun r25=>(K r25))else(bif(r21==2)then(f2 3 0 y fun r24=>(K r24))else(bif(r21==3)then(f2 3 0 y fun r23=>(K r23))else False))))else(bif(decide (r22 > 0))then(bif(decide (r21 < 0))then(bif(r22==0)then(f2 4 1 x_0 fun r30=>(K r30))else(bif(r22==1)then(f2 2 1 x_0 fun r29=>(K r29))else(bif(r22==2)then(f2 3 1 x_0 fun r28=>(K r28))else(bif(r22==3)then(f2 3 1 x_0 fun r27=>(K r27))else False))))else(f0 fun r31=>(K r31)))else(f0 fun r32=>(K r32))))else(bif(decide (r22 > 0))then(bif(decide (r21 < 0))then(bif(r22==0)then(f2 4 1 x_0 fun r36=>(K r36))else(bif(r22==1)then(f2 2 1 x_0 fun r35=>(K r35))else(bif(r22==2)then(f2 3 1 x_0 fun r34=>(K r34))else(bif(r22==3)then(f2 3 1 x_0 fun r33=>(K r33))else False))))else(f0 fun r37=>(K r37)))else(f0 fun r38=>(K r38))))))))))))else(bif x_0.inc then(f1 y x_0 fun r39=>(f2 r39 1 x_0 fun r40=>(K r40)))else(bif y.inc then(f1 x_0 y fun r41=>(f2 r41 0 y fun r42=>(K r42)))else(bif x_0.dis then(f2 3 1 x_0 fun r43=>(K r43))else(bif y.dis then(f2 3 0 y fun r44=>(K r44))else(bif(x_0.vector.current==y.vector.current)then(bif(x_0.mask==0)then(bif(y.mask==0)then(K (⟨1,(-1)⟩:Verdict))else(bif y.pri then(f2 2 1 x_0 fun r45=>(K r45))else(bif(!x_0.pri)then(bif y.was then(bif(!x_0.was)then(f2 2 1 x_0 fun r46=>(K r46))else(f2 2 0 y fun r47=>(K r47)))else(f2 2 0 y fun r48=>(K r48)))else(f2 2 0 y fun r49=>(K r49)))))else(bif y.pri then(f2 2 1 x_0 fun r50=>(K r50))else(bif(!x_0.pri)then(bif y.was then(bif(!x_0.was)then(f2 2 1 x_0 fun r51=>(K r51))else(f2 2 0 y fun r52=>(K r52)))else(f2 2 0 y fun r53=>(K r53)))else(f2 2 0 y fun r54=>(K r54)))))else(f3 x_0.vector y.vector.current fun r55=>(f3 y.vector x_0.vector.current fun r56=>(bif(decide (r55 > 0))then(bif(decide (r56 < 0))then(bif(r55==0)then(f2 4 0 y fun r60=>(K r60))else(bif(r55==1)then(f2 2 0 y fun r59=>(K r59))else(bif(r55==2)then(f2 3 0 y fun r58=>(K r58))else(bif(r55==3)then(f2 3 0 y fun r57=>(K r57))else False))))else(bif(decide (r56 > 0))then(bif(decide (r55 < 0))then(bif(r56==0)then(f2 4 1 x_0 fun r64=>(K r64))else(bif(r56==1)then(f2 2 1 x_0 fun r63=>(K r63))else(bif(r56==2)then(f2 3 1 x_0 fun r62=>(K r62))else(bif(r56==3)then(f2 3 1 x_0 fun r61=>(K r61))else False))))else(f0 fun r65=>(K r65)))else(f0 fun r66=>(K r66))))else(bif(decide (r56 > 0))then(bif(decide (r55 < 0))then(bif(r56==0)then(f2 4 1 x_0 fun r70=>(K r70))else(bif(r56==1)then(f2 2 1 x_0 fun r69=>(K r69))else(bif(r56==2)then(f2 3 1 x_0 fun r68=>(K r68))else(bif(r56==3)then(f2 3 1 x_0 fun r67=>(K r67))else False))))else(f0 fun r71=>(K r71)))else(f0 fun r72=>(K r72)))))))))))))else(bif x_0.dis then(bif y.dis then(f0 fun r73=>(K r73))else(bif x_0.inc then(f1 y x_0 fun r74=>(f2 r74 1 x_0 fun r75=>(K r75)))else(bif y.inc then(f1 x_0 y fun r76=>(f2 r76 0 y fun r77=>(K r77)))else(bif x_0.dis then(f2 3 1 x_0 fun r78=>(K r78))else(bif y.dis then(f2 3 0 y fun r79=>(K r79))else(bif(x_0.vector.current==y.vector.current)then(bif(x_0.mask==0)then(bif(y.mask==0)then(K (⟨1,(-1)⟩:Verdict))else(bif y.pri then(f2 2 1 x_0 fun r80=>(K r80))else(bif(!x_0.pri)then(bif y.was then(bif(!x_0.was)then(f2 2 1 x_0 fun r81=>(K r81))else(f2 2 0 y fun r82=>(K r82)))else(f2 2 0 y fun r83=>(K r83)))else(f2 2 0 y fun r84=>(K r84)))))else(bif y.pri then(f2 2 1 x_0 fun r85=>(K r85))else(bif(!x_0.pri)then(bif y.was then(bif(!x_0.was)then(f2 2 1 x_0 fun r86=>(K r86))else(f2 2 0 y fun r87=>(K r87)))else(f2 2 0 y fun r88=>(K r88)))else(f2 2 0 y fun r89=>(K r89)))))else(f3 x_0.vector y.vector.current fun r90=>(f3 y.vector x_0.vector.current fun r91=>(bif(decide (r90 > 0))then(bif(decide (r91 < 0))then(bif(r90==0)then(f2 4 0 y fun r95=>(K r95))else(bif(r90==1)then(f2 2 0 y fun r94=>(K r94))else(bif(r90==2)then(f2 3 0 y fun r93=>(K r93))else(bif(r90==3)then(f2 3 0 y fun r92=>(K r92))else False))))else(bif(decide (r91 > 0))then(bif(decide (r90 < 0))then(bif(r91==0)then(f2 4 1 x_0 fun r99=>(K r99))else(bif(r91==1)then(f2 2 1 x_0 fun r98=>(K r98))else(bif(r91==2)then(f2 3 1 x_0 fun r97=>(K r97))else(bif(r91==3)then(f2 3 1 x_0 fun r96=>(K r96))else False))))else(f0 fun r100=>(K r100)))else(f0 fun r101=>(K r101))))else(bif(decide (r91 > 0))then(bif(decide (r90 < 0))then(bif(r91==0)then(f2 4 1 x_0 fun r105=>(K r105))else(bif(r91==1)then(f2 2 1 x_0 fun r104=>(K r104))else(bif(r91==2)then(f2 3 1 x_0 fun r103=>(K r103))else(bif(r91==3)then(f2 3 1 x_0 fun r102=>(K r102))else False))))else(f0 fun r106=>(K r106)))else(f0 fun r107=>(K r107))))))))))))else(bif x_0.inc then(f1 y x_0 fun r108=>(f2 r108 1 x_0 fun r109=>(K r109)))else(bif y.inc then(f1 x_0 y fun r110=>(f2 r110 0 y fun r111=>(K r111)))else(bif x_0.dis then(f2 3 1 x_0 fun r112=>(K r112))else(bif y.dis then(f2 3 0 y fun r113=>(K r113))else(bif(x_0.vector.current==y.vector.current)then(bif(x_0.mask==0)then(bif(y.mask==0)then(K (⟨1,(-1)⟩:Verdict))else(bif y.pri then(f2 2 1 x_0 fun r114=>(K r114))else(bif(!x_0.pri)then(bif y.was then(bif(!x_0.was)then(f2 2 1 x_0 fun r115=>(K r115))else(f2 2 0 y fun r116=>(K r116)))else(f2 2 0 y fun r117=>(K r117)))else(f2 2 0 y fun r118=>(K r118)))))else(bif y.pri then(f2 2 1 x_0 fun r119=>(K r119))else(bif(!x_0.pri)then(bif y.was then(bif(!x_0.was)then(f2 2 1 x_0 fun r120=>(K r120))else(f2 2 0 y fun r121=>(K r121)))else(f2 2 0 y fun r122=>(K r122)))else(f2 2 0 y fun r123=>(K r123)))))else(f3 x_0.vector y.vector.current fun r124=>(f3 y.vector x_0.vector.current fun r125=>(bif(decide (r124 > 0))then(bif(decide (r125 < 0))then(bif(r124==0)then(f2 4 0 y fun r129=>(K r129))else(bif(r124==1)then(f2 2 0 y fun r128=>(K r128))else(bif(r124==2)then(f2 3 0 y fun r127=>(K r127))else(bif(r124==3)then(f2 3 0 y fun r126=>(K r126))else False))))else(bif(decide (r125 > 0))then(bif(decide (r124 < 0))then(bif(r125==0)then(f2 4 1 x_0 fun r133=>(K r133))else(bif(r125==1)then(f2 2 1 x_0 fun r132=>(K r132))else(bif(r125==2)then(f2 3 1 x_0 fun r131=>(K r131))else(bif(r125==3)then(f2 3 1 x_0 fun r130=>(K r130))else False))))else(f0 fun r134=>(K r134)))else(f0 fun r135=>(K r135))))else(bif(decide (r125 > 0))then(bif(decide (r124 < 0))then(bif(r125==0)then(f2 4 1 x_0 fun r139=>(K r139))else(bif(r125==1)then(f2 2 1 x_0 fun r138=>(K r138))else(bif(r125==2)then(f2 3 1 x_0 fun r137=>(K r137))else(bif(r125==3)then(f2 3 1 x_0 fun r136=>(K r136))else False))))else(f0 fun r140=>(K r140)))else(f0 fun r141=>(K r141))))))))))))))else(bif x_0.inc then(bif y.inc then(f0 fun r142=>(K r142))else(bif x_0.dis then(bif y.dis then(f0 fun r143=>(K r143))else(bif x_0.inc then(f1 y x_0 fun r144=>(f2 r144 1 x_0 fun r145=>(K r145)))else(bif y.inc then(f1 x_0 y fun r146=>(f2 r146 0 y fun r147=>(K r147)))else(bif x_0.dis then(f2 3 1 x_0 fun r148=>(K r148))else(bif y.dis then(f2 3 0 y fun r149=>(K r149))else(bif(x_0.vector.current==y.vector.current)then(bif(x_0.mask==0)then(bif(y.mask==0)then(K (⟨1,(-1)⟩:Verdict))else(bif y.pri then(f2 2 1 x_0 fun r150=>(K r150))else(bif(!x_0.pri)then(bif y.was then(bif(!x_0.was)then(f2 2 1 x_0 fun r151=>(K r151))else(f2 2 0 y fun r152=>(K r152)))else(f2 2 0 y fun r153=>(K r153)))else(f2 2 0 y fun r154=>(K r154)))))else(bif y.pri then(f2 2 1 x_0 fun r155=>(K r155))else(bif(!x_0.pri)then(bif y.was then(bif(!x_0.was)then(f2 2 1 x_0 fun r156=>(K r156))else(f2 2 0 y fun r157=>(K r157)))else(f2 2 0 y fun r158=>(K r158)))else(f2 2 0 y fun r159=>(K r159)))))else(f3 x_0.vector y.vector.current fun r160=>(f3 y.vector x_0.vector.current fun r161=>(bif(decide (r160 > 0))then(bif(decide (r161 < 0))then(bif(r160==0)then(f2 4 0 y fun r165=>(K r165))else(bif(r160==1)then(f2 2 0 y fun r164=>(K r164))else(bif(r160==2)then(f2 3 0 y fun r163=>(K r163))else(bif(r160==3)then(f2 3 0 y fun r162=>(K r162))else False))))else(bif(decide (r161 > 0))then(bif(decide (r160 < 0))then(bif(r161==0)then(f2 4 1 x_0 fun r169=>(K r169))else(bif(r161==1)then(f2 2 1 x_0 fun r168=>(K r168))else(bif(r161==2)then(f2 3 1 x_0 fun r167=>(K r167))else(bif(r161==3)then(f2 3 1 x_0 fun r166=>(K r166))else False))))else(f0 fun r170=>(K r170)))else(f0 fun r171=>(K r171))))else(bif(decide (r161 > 0))then(bif(decide (r160 < 0))then(bif(r161==0)then(f2 4 1 x_0 fun r175=>(K r175))else(bif(r161==1)then(f2 2 1 x_0 fun r174=>(K r174))else(bif(r161==2)then(f2 3 1 x_0 fun r173=>(K r173))else(bif(r161==3)then(f2 3 1 x_0 fun r172=>(K r172))else False))))else(f0 fun r176=>(K r176)))else(f0 fun r177=>(K r177))))))))))))else(bif x_0.inc then(f1 y x_0 fun r178=>(f2 r178 1 x_0 fun r179=>(K r179)))else(bif y.inc then(f1 x_0 y fun r180=>(f2 r180 0 y fun r181=>(K r181)))else(bif x_0.dis then(f2 3 1 x_0 fun r182=>(K r182))else(bif y.dis then(f2 3 0 y fun r183=>(K r183))else(bif(x_0.vector.current==y.vector.current)then(bif(x_0.mask==0)then(bif(y.mask==0)then(K (⟨1,(-1)⟩:Verdict))else(bif y.pri then(f2 2 1 x_0 fun r184=>(K r184))else(bif(!x_0.pri)then(bif y.was then(bif(!x_0.was)then(f2 2 1 x_0 fun r185=>(K r185))else(f2 2 0 y fun r186=>(K r186)))else(f2 2 0 y fun r187=>(K r187)))else(f2 2 0 y fun r188=>(K r188)))))else(bif y.pri then(f2 2 1 x_0 fun r189=>(K r189))else(bif(!x_0.pri)then(bif y.was then(bif(!x_0.was)then(f2 2 1 x_0 fun r190=>(K r190))else(f2 2 0 y fun r191=>(K r191)))else(f2 2 0 y fun r192=>(K r192)))else(f2 2 0 y fun r193=>(K r193)))))else(f3 x_0.vector y.vector.current fun r194=>(f3 y.vector x_0.vector.current fun r195=>(bif(decide (r194 > 0))then(bif(decide (r195 < 0))then(bif(r194==0)then(f2 4 0 y fun r199=>(K r199))else(bif(r194==1)then(f2 2 0 y fun r198=>(K r198))else(bif(r194==2)then(f2 3 0 y fun r197=>(K r197))else(bif(r194==3)then(f2 3 0 y fun r196=>(K r196))else False))))else(bif(decide (r195 > 0))then(bif(decide (r194 < 0))then(bif(r195==0)then(f2 4 1 x_0 fun r203=>(K r203))else(bif(r195==1)then(f2 2 1 x_0 fun r202=>(K r202))else(bif(r195==2)then(f2 3 1 x_0 fun r201=>(K r201))else(bif(r195==3)then(f2 3 1 x_0 fun r200=>(K r200))else False))))else(f0 fun r204=>(K r204)))else(f0 fun r205=>(K r205))))else(bif(decide (r195 > 0))then(bif(decide (r194 < 0))then(bif(r195==0)then(f2 4 1 x_0 fun r209=>(K r209))else(bif(r195==1)then(f2 2 1 x_0 fun r208=>(K r208))else(bif(r195==2)then(f2 3 1 x_0 fun r207=>(K r207))else(bif(r195==3)then(f2 3 1 x_0 fun r206=>(K r206))else False))))else(f0 fun r210=>(K r210)))else(f0 fun r211=>(K r211)))))))))))))else(bif x_0.dis then(bif y.dis then(f0 fun r212=>(K r212))else(bif x_0.inc then(f1 y x_0 fun r213=>(f2 r213 1 x_0 fun r214=>(K r214)))else(bif y.inc then(f1 x_0 y fun r215=>(f2 r215 0 y fun r216=>(K r216)))else(bif x_0.dis then(f2 3 1 x_0 fun r217=>(K r217))else(bif y.dis then(f2 3 0 y fun r218=>(K r218))else(bif(x_0.vector.current==y.vector.current)then(bif(x_0.mask==0)then(bif(y.mask==0)then(K (⟨1,(-1)⟩:Verdict))else(bif y.pri then(f2 2 1 x_0 fun r219=>(K r219))else(bif(!x_0.pri)then(bif y.was then(bif(!x_0.was)then(f2 2 1 x_0 fun r220=>(K r220))else(f2 2 0 y fun r221=>(K r221)))else(f2 2 0 y fun r222=>(K r222)))else(f2 2 0 y fun r223=>(K r223)))))else(bif y.pri then(f2 2 1 x_0 fun r224=>(K r224))else(bif(!x_0.pri)then(bif y.was then(bif(!x_0.was)then(f2 2 1 x_0 fun r225=>(K r225))else(f2 2 0 y fun r226=>(K r226)))else(f2 2 0 y fun r227=>(K r227)))else(f2 2 0 y fun r228=>(K r228)))))else(f3 x_0.vector y.vector.current fun r229=>(f3 y.vector x_0.vector.current fun r230=>(bif(decide (r229 > 0))then(bif(decide (r230 < 0))then(bif(r229==0)then(f2 4 0 y fun r234=>(K r234))else(bif(r229==1)then(f2 2 0 y fun r233=>(K r233))else(bif(r229==2)then(f2 3 0 y fun r232=>(K r232))else(bif(r229==3)then(f2 3 0 y fun r231=>(K r231))else False))))else(bif(decide (r230 > 0))then(bif(decide (r229 < 0))then(bif(r230==0)then(f2 4 1 x_0 fun r238=>(K r238))else(bif(r230==1)then(f2 2 1 x_0 fun r237=>(K r237))else(bif(r230==2)then(f2 3 1 x_0 fun r236=>(K r236))else(bif(r230==3)then(f2 3 1 x_0 fun r235=>(K r235))else False))))else(f0 fun r239=>(K r239)))else(f0 fun r240=>(K r240))))else(bif(decide (r230 > 0))then(bif(decide (r229 < 0))then(bif(r230==0)then(f2 4 1 x_0 fun r244=>(K r244))else(bif(r230==1)then(f2 2 1 x_0 fun r243=>(K r243))else(bif(r230==2)then(f2 3 1 x_0 fun r242=>(K r242))else(bif(r230==3)then(f2 3 1 x_0 fun r241=>(K r241))else False))))else(f0 fun r245=>(K r245)))else(f0 fun r246=>(K r246))))))))))))else(bif x_0.inc then(f1 y x_0 fun r247=>(f2 r247 1 x_0 fun r248=>(K r248)))else(bif y.inc then(f1 x_0 y fun r249=>(f2 r249 0 y fun r250=>(K r250)))else(bif x_0.dis then(f2 3 1 x_0 fun r251=>(K r251))else(bif y.dis then(f2 3 0 y fun r252=>(K r252))else(bif(x_0.vector.current==y.vector.current)then(bif(x_0.mask==0)then(bif(y.mask==0)then(K (⟨1,(-1)⟩:Verdict))else(bif y.pri then(f2 2 1 x_0 fun r253=>(K r253))else(bif(!x_0.pri)then(bif y.was then(bif(!x_0.was)then(f2 2 1 x_0 fun r254=>(K r254))else(f2 2 0 y fun r255=>(K r255)))else(f2 2 0 y fun r256=>(K r256)))else(f2 2 0 y fun r257=>(K r257)))))else(bif y.pri then(f2 2 1 x_0 fun r258=>(K r258))else(bif(!x_0.pri)then(bif y.was then(bif(!x_0.was)then(f2 2 1 x_0 fun r259=>(K r259))else(f2 2 0 y fun r260=>(K r260)))else(f2 2 0 y fun r261=>(K r261)))else(f2 2 0 y fun r262=>(K r262)))))else(f3 x_0.vector y.vector.current fun r263=>(f3 y.vector x_0.vector.current fun r264=>(bif(decide (r263 > 0))then(bif(decide (r264 < 0))then(bif(r263==0)then(f2 4 0 y fun r268=>(K r268))else(bif(r263==1)then(f2 2 0 y fun r267=>(K r267))else(bif(r263==2)then(f2 3 0 y fun r266=>(K r266))else(bif(r263==3)then(f2 3 0 y fun r265=>(K r265))else False))))else(bif(decide (r264 > 0))then(bif(decide (r263 < 0))then(bif(r264==0)then(f2 4 1 x_0 fun r272=>(K r272))else(bif(r264==1)then(f2 2 1 x_0 fun r271=>(K r271))else(bif(r264==2)then(f2 3 1 x_0 fun r270=>(K r270))else(bif(r264==3)then(f2 3 1 x_0 fun r269=>(K r269))else False))))else(f0 fun r273=>(K r273)))else(f0 fun r274=>(K r274))))else(bif(decide (r264 > 0))then(bif(decide (r263 < 0))then(bif(r264==0)then(f2 4 1 x_0 fun r278=>(K r278))else(bif(r264==1)then(f2 2 1 x_0 fun r277=>(K r277))else(bif(r264==2)then(f2 3 1 x_0 fun r276=>(K r276))else(bif(r264==3)then(f2 3 1 x_0 fun r275=>(K r275))else False))))else(f0 fun r279=>(K r279)))else(f0 fun r280=>(K r280)))))))))))))))
def F (x_0:Hello) (y:Hello) (K:Verdict->Prop):Prop:=FV q156.F q158.F q159.F q157.F x_0 y K
def en:Entry:=mkEntry A C fun x=>F x.1 x.2.1
theorem eqv (f0:q156.T) (f1:q158.T) (f2:q159.T) (f3:q157.T) (x_0:Hello) (y:Hello) (K:Verdict->Prop):apure E (tv f0 f1 f2 f3) (fun _=>none) 4 236 [enc (.st 4) x_0,enc (.st 4) y] (ansK C K)=FV f0 f1 f2 f3 x_0 y K:=by kernel_rfl
theorem loops:LoopsOk E tab (fun _=>none) 4 236:=lpn _ _ _ _
theorem det (x_0:Hello) (y:Hello):Det (F x_0 y):=by
 unfold F FV
 repeat' with_reducible first|exact det_ret _|exact det_false|refine det_cond _ ?_ ?_|refine det_bind (q156.det) (fun _=>?_)|refine det_bind (q158.det _ _) (fun _=>?_)|refine det_bind (q159.det _ _ _) (fun _=>?_)|refine det_bind (q157.det _ _) (fun _=>?_)
theorem edet a:Det (en a):=mkD (fun x:Dens A=>det x.1 x.2.1) a
theorem ground:Ground E tab:=gnd (tbc q156.sound (tbc q158.sound (tbc q159.sound (tbc q157.sound (tab_nil _))))) (dtc q156.edet (dtc q158.edet (dtc q159.edet (dtc q157.edet dtn))))
theorem sound:EntrySound E 236 en:=mkSound ground loops (by kernel_rfl) (fun x K=>eqv q156.F q158.F q159.F q157.F x.1 x.2.1 K)
end q160
namespace q161
abbrev A:List Ty:=[(.int .u32)]
abbrev C:=(cTy (.slice (.int .i64)))
abbrev T:Type:=Int->((List Int)->Prop)->Prop
def tv (f0:q37.T):Tab:=[(161,mkEntry q37.A q37.C fun x=>f0 x.1 x.2.1)]
def tab:Tab:=tv q37.F
structure R where
def cR (_:R):St:={ fr:=fun _=>.top,hs:=hs0 }
def kR:Keep:={ ks:=[],bs:=[],hn:=0 }
structure L0 where
 m:Int
 out:(List Int)
 i:Int
def c0 (x:L0):St:={ fr:=lookL .top [(0,(.int .u32 x.m)),(3,(.slr 1)),(4,(.int .i64 x.i))],hs:={ hp:=lookL .dead [(1,(.row false (.int .i64) x.out))],hn:=2 } }
def kp0:Keep:={ ks:=[(0,none),(3,some 1),(4,none)],bs:=[],hn:=2 }
def p0 (st:St) (K:L0->Prop):Prop:=gHomes kp0 st <| gInt .u32 (st.fr 0) fun a1=>gSlr (st.fr 3) fun c2=>gRow false (.int .i64) (st.hs.hp c2) fun a3=>gInt .i64 (st.fr 4) fun a4=>K ⟨a1,a3,a4⟩
set_option maxHeartbeats 4000000 in
theorem p0_ok (st:St) (K:L0->Prop) (h:p0 st K):∃ x,keepSt kp0 st=c0 x∧K x:=by
 obtain ⟨h0,h⟩:=gHomes_elim h
 obtain ⟨a1,h1,h⟩:=gInt_elim h
 obtain ⟨c2,h2,h⟩:=gSlr_elim h
 obtain ⟨a3,h3,h⟩:=gRow_elim h
 obtain ⟨a4,h4,h⟩:=gInt_elim h
 refine⟨_,?_,h⟩
 simp only [keepSt,h0]
 simp only [kp0,List.map,List.filterMap,homeOf,h1,h2,h3,h4,hmOf,List.append_nil,cond_true]
 rfl
def b0V (f0:q37.T) (rec kx:L0->Prop) (kr:R->Prop) (x:L0):Prop:=
 (bif(decide (x.i < 32))then(f0 x.m x.i fun r1=>(bif r1 then(bif(decide ((x.out.length+([x.i]:List Int).length) * 8≤room))then(rec ⟨x.m,(x.out++([x.i]:List Int)),(IntKind.i64.wrap (x.i+1))⟩)else False)else(rec ⟨x.m,x.out,(IntKind.i64.wrap (x.i+1))⟩)))else(kx ⟨x.m,x.out,x.i⟩))
def ltV (f0:q37.T):Nat->Option LSpec
 | 0=>some (mkLoop 0 kp0 kR p0 c0 cR (b0V f0))
 | _=>none
def lt:Nat->Option LSpec:=ltV q37.F
def FV (f0:q37.T) (m:Int) (K:(List Int)->Prop):Prop:=
 (∃ n,loopB (b0V f0) n (fun x2=>(K x2.out)) (fun _=>False) ⟨m,([]:List Int),0⟩)
def F (m:Int) (K:(List Int)->Prop):Prop:=FV q37.F m K
def en:Entry:=mkEntry A C fun x=>F x.1
theorem eqv (f0:q37.T) (m:Int) (K:(List Int)->Prop):apure E (tv f0) (ltV f0) 4 164 [enc (.int .u32) m] (ansK C K)=FV f0 m K:=by kernel_rfl
theorem l0v (f0:q37.T) (R:St->Prop) (Kx:Nat->St->Prop) (Kr:St->Prop) (x:L0):acode E (tv f0) (afun E (tv f0) 4) 17 (ltV f0) ((loopsIn E.P 164).getD 0 (0,.skip)).2 0 (fun s=>R (keepSt kp0 s)) (fun j s=>Kx j (keepSt kp0 s)) (fun s=>Kr (keepSt kR s)) (c0 x)=b0V f0 (fun x=>R (c0 x)) (fun x=>Kx 0 (c0 x)) (fun r=>Kr (cR r)) x:=by kernel_rfl
theorem l0_ok:LSound E tab (afun E tab 4) 17 lt 0 ((loopsIn E.P 164).getD 0 (0,.skip)).2 (mkLoop 0 kp0 kR p0 c0 cR (b0V q37.F)):=mkLoop_sound (by decide) (by decide) p0_ok (fun R Kx Kr x=>l0v q37.F R Kx Kr x)
theorem loops:LoopsOk E tab lt 4 164:=loops_of (nt:=17) (ids:=[0]) (by kernel_rfl) (by kernel_rfl) (by
 intro k i hk l hl
 match k,hk with
 | 0,hk=>cases hk;cases hl;exact l0_ok
 | _+1,hk=>exact absurd hk (by simp))
theorem det (m:Int):Det (F m):=by
 unfold F FV
 repeat' with_reducible first|exact det_ret _|exact det_false|refine det_cond _ ?_ ?_|refine det_bind (q37.det _ _) (fun _=>?_)|refine det_loop (fun _=>?_) (fun _=>?_) (fun _=>?_) _ | unfold b0V
theorem edet a:Det (en a):=mkD (fun x:Dens A=>det x.1) a
theorem ground:Ground E tab:=gnd (tbc q37.sound (tab_nil _)) (dtc q37.edet dtn)
theorem sound:EntrySound E 164 en:=mkSound ground loops (by kernel_rfl) (fun x K=>eqv q37.F x.1 K)
end q161
namespace q162
abbrev A:List Ty:=[(.slice (.int .u32))]
abbrev C:=(cTy (.int .u32))
abbrev T:Type:=(List Int)->(Int->Prop)->Prop
def tv (f0:q161.T) (f1:q134.T):Tab:=[(164,mkEntry q161.A q161.C fun x=>f0 x.1),(117,mkEntry q134.A q134.C fun x=>f1 x.1 x.2.1)]
def tab:Tab:=tv q161.F q134.F
structure R where
def cR (_:R):St:={ fr:=fun _=>.top,hs:=hs0 }
def kR:Keep:={ ks:=[],bs:=[],hn:=0 }
structure L0 where
 l:(List Int)
 m:Int
 k:Int
def c0 (x:L0):St:={ fr:=lookL .top [(0,(.sl .any (.int .u32) x.l)),(3,(.int .u32 x.m)),(4,(.int .i64 x.k))],hs:={ hp:=lookL .dead [],hn:=0 } }
def kp0:Keep:={ ks:=[(0,none),(3,none),(4,none)],bs:=[],hn:=0 }
def p0 (st:St) (K:L0->Prop):Prop:=gSl .any (.int .u32) (st.fr 0) fun a1=>gInt .u32 (st.fr 3) fun a2=>gInt .i64 (st.fr 4) fun a3=>K ⟨a1,a2,a3⟩
set_option maxHeartbeats 4000000 in
theorem p0_ok (st:St) (K:L0->Prop) (h:p0 st K):∃ x,keepSt kp0 st=c0 x∧K x:=by
 obtain ⟨a1,h0,h⟩:=gSl_elim h
 obtain ⟨a2,h1,h⟩:=gInt_elim h
 obtain ⟨a3,h2,h⟩:=gInt_elim h
 refine⟨_,?_,h⟩
 simp only [keepSt,kp0,List.map,h0,h1,h2]
 rfl
def b0V (f0:q161.T) (f1:q134.T) (rec kx:L0->Prop) (kr:R->Prop) (x:L0):Prop:=
 (bif(decide (x.k < (x.l.length:Int)))then(oget (getI x.l x.k) fun v1=>(f0 v1 fun r2=>(f1 x.m r2 fun r3=>(rec ⟨x.l,r3,(IntKind.i64.wrap (x.k+1))⟩))))else(kx ⟨x.l,x.m,x.k⟩))
def ltV (f0:q161.T) (f1:q134.T):Nat->Option LSpec
 | 0=>some (mkLoop 0 kp0 kR p0 c0 cR (b0V f0 f1))
 | _=>none
def lt:Nat->Option LSpec:=ltV q161.F q134.F
def FV (f0:q161.T) (f1:q134.T) (l:(List Int)) (K:Int->Prop):Prop:=
 (∃ n,loopB (b0V f0 f1) n (fun x4=>(K x4.m)) (fun _=>False) ⟨l,0,0⟩)
def F (l:(List Int)) (K:Int->Prop):Prop:=FV q161.F q134.F l K
def en:Entry:=mkEntry A C fun x=>F x.1
theorem eqv (f0:q161.T) (f1:q134.T) (l:(List Int)) (K:Int->Prop):apure E (tv f0 f1) (ltV f0 f1) 4 120 [enc (.slice (.int .u32)) l] (ansK C K)=FV f0 f1 l K:=by kernel_rfl
theorem l0v (f0:q161.T) (f1:q134.T) (R:St->Prop) (Kx:Nat->St->Prop) (Kr:St->Prop) (x:L0):acode E (tv f0 f1) (afun E (tv f0 f1) 4) 19 (ltV f0 f1) ((loopsIn E.P 120).getD 0 (0,.skip)).2 0 (fun s=>R (keepSt kp0 s)) (fun j s=>Kx j (keepSt kp0 s)) (fun s=>Kr (keepSt kR s)) (c0 x)=b0V f0 f1 (fun x=>R (c0 x)) (fun x=>Kx 0 (c0 x)) (fun r=>Kr (cR r)) x:=by kernel_rfl
theorem l0_ok:LSound E tab (afun E tab 4) 19 lt 0 ((loopsIn E.P 120).getD 0 (0,.skip)).2 (mkLoop 0 kp0 kR p0 c0 cR (b0V q161.F q134.F)):=mkLoop_sound (by decide) (by decide) p0_ok (fun R Kx Kr x=>l0v q161.F q134.F R Kx Kr x)
theorem loops:LoopsOk E tab lt 4 120:=loops_of (nt:=19) (ids:=[0]) (by kernel_rfl) (by kernel_rfl) (by
 intro k i hk l hl
 match k,hk with
 | 0,hk=>cases hk;cases hl;exact l0_ok
 | _+1,hk=>exact absurd hk (by simp))
theorem det (l:(List Int)):Det (F l):=by
 unfold F FV
 repeat' with_reducible first|exact det_ret _|exact det_false|refine det_cond _ ?_ ?_|refine det_oget _ (fun _=>?_)|refine det_bind (q161.det _) (fun _=>?_)|refine det_bind (q134.det _ _) (fun _=>?_)|refine det_loop (fun _=>?_) (fun _=>?_) (fun _=>?_) _ | unfold b0V
theorem edet a:Det (en a):=mkD (fun x:Dens A=>det x.1) a
theorem ground:Ground E tab:=gnd (tbc q161.sound (tbc q134.sound (tab_nil _))) (dtc q161.edet (dtc q134.edet dtn))
theorem sound:EntrySound E 120 en:=mkSound ground loops (by kernel_rfl) (fun x K=>eqv q161.F q134.F x.1 K)
end q162
namespace q163
abbrev A:List Ty:=[(.int .i64)]
abbrev C:=(cTy (.int .u32))
abbrev T:Type:=Int->(Int->Prop)->Prop
def tv (f0:q36.T):Tab:=[(162,mkEntry q36.A q36.C fun x=>f0 x.1)]
def tab:Tab:=tv q36.F
structure R where
def cR (_:R):St:={ fr:=fun _=>.top,hs:=hs0 }
def kR:Keep:={ ks:=[],bs:=[],hn:=0 }
structure L0 where
 blocks:Int
 m:Int
 i:Int
def c0 (x:L0):St:={ fr:=lookL .top [(0,(.int .i64 x.blocks)),(3,(.int .u32 x.m)),(4,(.int .i64 x.i))],hs:={ hp:=lookL .dead [],hn:=0 } }
def kp0:Keep:={ ks:=[(0,none),(3,none),(4,none)],bs:=[],hn:=0 }
def p0 (st:St) (K:L0->Prop):Prop:=gInt .i64 (st.fr 0) fun a1=>gInt .u32 (st.fr 3) fun a2=>gInt .i64 (st.fr 4) fun a3=>K ⟨a1,a2,a3⟩
set_option maxHeartbeats 4000000 in
theorem p0_ok (st:St) (K:L0->Prop) (h:p0 st K):∃ x,keepSt kp0 st=c0 x∧K x:=by
 obtain ⟨a1,h0,h⟩:=gInt_elim h
 obtain ⟨a2,h1,h⟩:=gInt_elim h
 obtain ⟨a3,h2,h⟩:=gInt_elim h
 refine⟨_,?_,h⟩
 simp only [keepSt,kp0,List.map,h0,h1,h2]
 rfl
def b0V (f0:q36.T) (rec kx:L0->Prop) (kr:R->Prop) (x:L0):Prop:=
 (bif(decide (x.i < x.blocks))then(f0 x.i fun r1=>(rec ⟨x.blocks,(IntKind.u32.wrap (x.m+r1)),(IntKind.i64.wrap (x.i+1))⟩))else(kx ⟨x.blocks,x.m,x.i⟩))
def ltV (f0:q36.T):Nat->Option LSpec
 | 0=>some (mkLoop 0 kp0 kR p0 c0 cR (b0V f0))
 | _=>none
def lt:Nat->Option LSpec:=ltV q36.F
def FV (f0:q36.T) (blocks:Int) (K:Int->Prop):Prop:=
 (bif(decide (blocks < 1))then(K 0)else(bif(decide (blocks > 32))then(K 0)else(∃ n,loopB (b0V f0) n (fun x2=>(K x2.m)) (fun _=>False) ⟨blocks,0,0⟩)))
def F (blocks:Int) (K:Int->Prop):Prop:=FV q36.F blocks K
def en:Entry:=mkEntry A C fun x=>F x.1
theorem eqv (f0:q36.T) (blocks:Int) (K:Int->Prop):apure E (tv f0) (ltV f0) 4 245 [enc (.int .i64) blocks] (ansK C K)=FV f0 blocks K:=by kernel_rfl
theorem l0v (f0:q36.T) (R:St->Prop) (Kx:Nat->St->Prop) (Kr:St->Prop) (x:L0):acode E (tv f0) (afun E (tv f0) 4) 21 (ltV f0) ((loopsIn E.P 245).getD 0 (0,.skip)).2 0 (fun s=>R (keepSt kp0 s)) (fun j s=>Kx j (keepSt kp0 s)) (fun s=>Kr (keepSt kR s)) (c0 x)=b0V f0 (fun x=>R (c0 x)) (fun x=>Kx 0 (c0 x)) (fun r=>Kr (cR r)) x:=by kernel_rfl
theorem l0_ok:LSound E tab (afun E tab 4) 21 lt 0 ((loopsIn E.P 245).getD 0 (0,.skip)).2 (mkLoop 0 kp0 kR p0 c0 cR (b0V q36.F)):=mkLoop_sound (by decide) (by decide) p0_ok (fun R Kx Kr x=>l0v q36.F R Kx Kr x)
theorem loops:LoopsOk E tab lt 4 245:=loops_of (nt:=21) (ids:=[0]) (by kernel_rfl) (by kernel_rfl) (by
 intro k i hk l hl
 match k,hk with
 | 0,hk=>cases hk;cases hl;exact l0_ok
 | _+1,hk=>exact absurd hk (by simp))
theorem det (blocks:Int):Det (F blocks):=by
 unfold F FV
 repeat' with_reducible first|exact det_ret _|exact det_false|refine det_cond _ ?_ ?_|refine det_bind (q36.det _) (fun _=>?_)|refine det_loop (fun _=>?_) (fun _=>?_) (fun _=>?_) _ | unfold b0V
theorem edet a:Det (en a):=mkD (fun x:Dens A=>det x.1) a
theorem ground:Ground E tab:=gnd (tbc q36.sound (tab_nil _)) (dtc q36.edet dtn)
theorem sound:EntrySound E 245 en:=mkSound ground loops (by kernel_rfl) (fun x K=>eqv q36.F x.1 K)
end q163
namespace q164
abbrev A:List Ty:=[(.st 17),(.st 4),(.st 4)]
abbrev C:=(cTy (.int .u32))
abbrev T:Type:=Verdict->Hello->Hello->(Int->Prop)->Prop
def tv (f0:q162.T) (f1:q163.T):Tab:=[(120,mkEntry q162.A q162.C fun x=>f0 x.1),(245,mkEntry q163.A q163.C fun x=>f1 x.1)]
def tab:Tab:=tv q162.F q163.F
def FV (f0:q162.T) (f1:q163.T) (v:Verdict) (x_1:Hello) (y:Hello) (K:Int->Prop):Prop:=
 (bif(v.kind==2)then(f0 ([x_1.mask,y.mask]:List Int) fun r1=>(K r1))else(bif(v.kind==3)then(f1 x_1.blocks fun r2=>(K r2))else(K 0)))
def F (v:Verdict) (x_1:Hello) (y:Hello) (K:Int->Prop):Prop:=FV q162.F q163.F v x_1 y K
def en:Entry:=mkEntry A C fun x=>F x.1 x.2.1 x.2.2.1
theorem eqv (f0:q162.T) (f1:q163.T) (v:Verdict) (x_1:Hello) (y:Hello) (K:Int->Prop):apure E (tv f0 f1) (fun _=>none) 4 237 [enc (.st 17) v,enc (.st 4) x_1,enc (.st 4) y] (ansK C K)=FV f0 f1 v x_1 y K:=by kernel_rfl
theorem loops:LoopsOk E tab (fun _=>none) 4 237:=lpn _ _ _ _
theorem det (v:Verdict) (x_1:Hello) (y:Hello):Det (F v x_1 y):=by
 unfold F FV
 repeat' with_reducible first|exact det_ret _|refine det_cond _ ?_ ?_|refine det_bind (q162.det _) (fun _=>?_)|refine det_bind (q163.det _) (fun _=>?_)
theorem edet a:Det (en a):=mkD (fun x:Dens A=>det x.1 x.2.1 x.2.2.1) a
theorem ground:Ground E tab:=gnd (tbc q162.sound (tbc q163.sound (tab_nil _))) (dtc q162.edet (dtc q163.edet dtn))
theorem sound:EntrySound E 237 en:=mkSound ground loops (by kernel_rfl) (fun x K=>eqv q162.F q163.F x.1 x.2.1 x.2.2.1 K)
end q164
namespace q165
abbrev A:List Ty:=[(.st 13),(.st 4)]
abbrev C:=(cTwo (.st 17) (.int .u32))
abbrev T:Type:=Node->Hello->((Verdict×Int)->Prop)->Prop
def tv (f0:q145.T) (f1:q160.T) (f2:q164.T):Tab:=[(227,mkEntry q145.A q145.C fun x=>f0 x.1),(236,mkEntry q160.A q160.C fun x=>f1 x.1 x.2.1),(237,mkEntry q164.A q164.C fun x=>f2 x.1 x.2.1 x.2.2.1)]
def tab:Tab:=tv q145.F q160.F q164.F
def FV (f0:q145.T) (f1:q160.T) (f2:q164.T) (n_0:Node) (h:Hello) (K:(Verdict×Int)->Prop):Prop:=
 (f0 n_0 fun r1=>(bif(n_0.id==1)then(f0 n_0 fun r2=>(f1 h r2 fun r3=>(f2 r3 h r2 fun r4=>(K (r3,r4)))))else(f1 r1 h fun r5=>(f2 r5 r1 h fun r6=>(K (r5,r6))))))
def F (n_0:Node) (h:Hello) (K:(Verdict×Int)->Prop):Prop:=FV q145.F q160.F q164.F n_0 h K
def en:Entry:=mkEntry A C fun x=>F x.1 x.2.1
theorem eqv (f0:q145.T) (f1:q160.T) (f2:q164.T) (n_0:Node) (h:Hello) (K:(Verdict×Int)->Prop):apure E (tv f0 f1 f2) (fun _=>none) 4 228 [enc (.st 13) n_0,enc (.st 4) h] (ansK C K)=FV f0 f1 f2 n_0 h K:=by kernel_rfl
theorem loops:LoopsOk E tab (fun _=>none) 4 228:=lpn _ _ _ _
theorem det (n_0:Node) (h:Hello):Det (F n_0 h):=by
 unfold F FV
 repeat' with_reducible first|exact det_ret _|refine det_cond _ ?_ ?_|refine det_bind (q145.det _) (fun _=>?_)|refine det_bind (q160.det _ _) (fun _=>?_)|refine det_bind (q164.det _ _ _) (fun _=>?_)
theorem edet a:Det (en a):=mkD (fun x:Dens A=>det x.1 x.2.1) a
theorem ground:Ground E tab:=gnd (tbc q145.sound (tbc q160.sound (tbc q164.sound (tab_nil _)))) (dtc q145.edet (dtc q160.edet (dtc q164.edet dtn)))
theorem sound:EntrySound E 228 en:=mkSound ground loops (by kernel_rfl) (fun x K=>eqv q145.F q160.F q164.F x.1 x.2.1 K)
end q165
namespace q166
abbrev A:List Ty:=[(.st 2)]
abbrev C:=(cTy (.st 2))
abbrev T:Type:=Vec->(Vec->Prop)->Prop
def tab:Tab:=[]
def F (v:Vec) (K:Vec->Prop):Prop:=
 (bif(v.bitmap==0)then(K v)else(K (⟨v.current,0,v.bitmap,v.old0⟩:Vec)))
def en:Entry:=mkEntry A C fun x=>F x.1
theorem eqv (v:Vec) (K:Vec->Prop):apure E tab (fun _=>none) 4 229 [enc (.st 2) v] (ansK C K)=F v K:=by kernel_rfl
theorem loops:LoopsOk E tab (fun _=>none) 4 229:=lpn _ _ _ _
theorem det (v:Vec):Det (F v):=by
 unfold F
 repeat' with_reducible first|exact det_ret _|refine det_cond _ ?_ ?_
theorem edet a:Det (en a):=mkD (fun x:Dens A=>det x.1) a
theorem ground:Ground E tab:=gnd (tab_nil _) dtn
theorem sound:EntrySound E 229 en:=mkSound ground loops (by kernel_rfl) (fun x K=>eqv  x.1 K)
end q166
namespace q167
abbrev A:List Ty:=[(.st 8),(.int .u32)]
abbrev C:=(cTwo (.st 8) (.int .i64))
abbrev T:Type:=Store->Int->((Store×Int)->Prop)->Prop
def tv (f0:q162.T) (f1:q137.T):Tab:=[(120,mkEntry q162.A q162.C fun x=>f0 x.1),(116,mkEntry q137.A q137.C fun x=>f1 x.1 x.2.1)]
def tab:Tab:=tv q162.F q137.F
def FV (f0:q162.T) (f1:q137.T) (s:Store) (m:Int) (K:(Store×Int)->Prop):Prop:=
 (f0 ([s.mask,m]:List Int) fun r1=>(f1 s r1 fun r2=>(K (r2.1,r2.2))))
def F (s:Store) (m:Int) (K:(Store×Int)->Prop):Prop:=FV q162.F q137.F s m K
def en:Entry:=mkEntry A C fun x=>F x.1 x.2.1
theorem eqv (f0:q162.T) (f1:q137.T) (s:Store) (m:Int) (K:(Store×Int)->Prop):apure E (tv f0 f1) (fun _=>none) 4 81 [enc (.st 8) s,enc (.int .u32) m] (ansK C K)=FV f0 f1 s m K:=by kernel_rfl
theorem loops:LoopsOk E tab (fun _=>none) 4 81:=lpn _ _ _ _
theorem det (s:Store) (m:Int):Det (F s m):=by
 unfold F FV
 repeat' with_reducible first|exact det_ret _|refine det_bind (q162.det _) (fun _=>?_)|refine det_bind (q137.det _ _) (fun _=>?_)
theorem edet a:Det (en a):=mkD (fun x:Dens A=>det x.1 x.2.1) a
theorem ground:Ground E tab:=gnd (tbc q162.sound (tbc q137.sound (tab_nil _))) (dtc q162.edet (dtc q137.edet dtn))
theorem sound:EntrySound E 81 en:=mkSound ground loops (by kernel_rfl) (fun x K=>eqv q162.F q137.F x.1 x.2.1 K)
end q167
namespace q168
abbrev A:List Ty:=[(.st 2),(.int .u64)]
abbrev C:=(cTy (.st 2))
abbrev T:Type:=Vec->Int->(Vec->Prop)->Prop
def tab:Tab:=[]
def F (v:Vec) (g:Int) (K:Vec->Prop):Prop:=
 (K (⟨v.current,g,v.old0,v.old1⟩:Vec))
def en:Entry:=mkEntry A C fun x=>F x.1 x.2.1
theorem eqv (v:Vec) (g:Int) (K:Vec->Prop):apure E tab (fun _=>none) 4 230 [enc (.st 2) v,enc (.int .u64) g] (ansK C K)=F v g K:=by kernel_rfl
theorem loops:LoopsOk E tab (fun _=>none) 4 230:=lpn _ _ _ _
theorem det (v:Vec) (g:Int):Det (F v g):=by
 unfold F
 repeat' with_reducible first|exact det_ret _
theorem edet a:Det (en a):=mkD (fun x:Dens A=>det x.1 x.2.1) a
theorem ground:Ground E tab:=gnd (tab_nil _) dtn
theorem sound:EntrySound E 230 en:=mkSound ground loops (by kernel_rfl) (fun x K=>eqv  x.1 x.2.1 K)
end q168
namespace q169
abbrev A:List Ty:=[(.int .u32),(.int .i64)]
abbrev C:=(cTwo (.int .i64) .bool)
abbrev T:Type:=Int->Int->((Int×Bool)->Prop)->Prop
def tv (f0:q37.T):Tab:=[(161,mkEntry q37.A q37.C fun x=>f0 x.1 x.2.1)]
def tab:Tab:=tv q37.F
structure R where
 t4:Int
 t5:Bool
def cR (x:R):St:={ fr:=lookL .top [(4,(.int .i64 x.t4)),(5,(.bool x.t5))],hs:={ hp:=lookL .dead [],hn:=0 } }
def kR:Keep:={ ks:=[(4,none),(5,none)],bs:=[],hn:=0 }
structure L0 where
 m:Int
 from0:Int
 i:Int
def c0 (x:L0):St:={ fr:=lookL .top [(0,(.int .u32 x.m)),(1,(.int .i64 x.from0)),(6,(.int .i64 x.i))],hs:={ hp:=lookL .dead [],hn:=0 } }
def kp0:Keep:={ ks:=[(0,none),(1,none),(6,none)],bs:=[],hn:=0 }
def p0 (st:St) (K:L0->Prop):Prop:=gInt .u32 (st.fr 0) fun a1=>gInt .i64 (st.fr 1) fun a2=>gInt .i64 (st.fr 6) fun a3=>K ⟨a1,a2,a3⟩
set_option maxHeartbeats 4000000 in
theorem p0_ok (st:St) (K:L0->Prop) (h:p0 st K):∃ x,keepSt kp0 st=c0 x∧K x:=by
 obtain ⟨a1,h0,h⟩:=gInt_elim h
 obtain ⟨a2,h1,h⟩:=gInt_elim h
 obtain ⟨a3,h2,h⟩:=gInt_elim h
 refine⟨_,?_,h⟩
 simp only [keepSt,kp0,List.map,h0,h1,h2]
 rfl
def b0V (f0:q37.T) (rec kx:L0->Prop) (kr:R->Prop) (x:L0):Prop:=
 (bif(decide (x.i < 32))then(bif(decide (x.i≥x.from0))then(f0 x.m x.i fun r1=>(bif r1 then(kr ⟨x.i,true⟩)else(rec ⟨x.m,x.from0,(IntKind.i64.wrap (x.i+1))⟩)))else(rec ⟨x.m,x.from0,(IntKind.i64.wrap (x.i+1))⟩))else(kx ⟨x.m,x.from0,x.i⟩))
def ltV (f0:q37.T):Nat->Option LSpec
 | 0=>some (mkLoop 0 kp0 kR p0 c0 cR (b0V f0))
 | _=>none
def lt:Nat->Option LSpec:=ltV q37.F
def FV (f0:q37.T) (m:Int) (from_1:Int) (K:(Int×Bool)->Prop):Prop:=
 (∃ n,loopB (b0V f0) n (fun x2=>(K (0,false))) (fun r3=>(K (r3.t4,r3.t5))) ⟨m,from_1,0⟩)
def F (m:Int) (from_1:Int) (K:(Int×Bool)->Prop):Prop:=FV q37.F m from_1 K
def en:Entry:=mkEntry A C fun x=>F x.1 x.2.1
theorem eqv (f0:q37.T) (m:Int) (from_1:Int) (K:(Int×Bool)->Prop):apure E (tv f0) (ltV f0) 4 238 [enc (.int .u32) m,enc (.int .i64) from_1] (ansK C K)=FV f0 m from_1 K:=by kernel_rfl
theorem l0v (f0:q37.T) (R:St->Prop) (Kx:Nat->St->Prop) (Kr:St->Prop) (x:L0):acode E (tv f0) (afun E (tv f0) 4) 20 (ltV f0) ((loopsIn E.P 238).getD 0 (0,.skip)).2 0 (fun s=>R (keepSt kp0 s)) (fun j s=>Kx j (keepSt kp0 s)) (fun s=>Kr (keepSt kR s)) (c0 x)=b0V f0 (fun x=>R (c0 x)) (fun x=>Kx 0 (c0 x)) (fun r=>Kr (cR r)) x:=by kernel_rfl
theorem l0_ok:LSound E tab (afun E tab 4) 20 lt 0 ((loopsIn E.P 238).getD 0 (0,.skip)).2 (mkLoop 0 kp0 kR p0 c0 cR (b0V q37.F)):=mkLoop_sound (by decide) (by decide) p0_ok (fun R Kx Kr x=>l0v q37.F R Kx Kr x)
theorem loops:LoopsOk E tab lt 4 238:=loops_of (nt:=20) (ids:=[0]) (by kernel_rfl) (by kernel_rfl) (by
 intro k i hk l hl
 match k,hk with
 | 0,hk=>cases hk;cases hl;exact l0_ok
 | _+1,hk=>exact absurd hk (by simp))
theorem det (m:Int) (from_1:Int):Det (F m from_1):=by
 unfold F FV
 repeat' with_reducible first|exact det_ret _|refine det_cond _ ?_ ?_|refine det_bind (q37.det _ _) (fun _=>?_)|refine det_loop (fun _=>?_) (fun _=>?_) (fun _=>?_) _ | unfold b0V
theorem edet a:Det (en a):=mkD (fun x:Dens A=>det x.1 x.2.1) a
theorem ground:Ground E tab:=gnd (tbc q37.sound (tab_nil _)) (dtc q37.edet dtn)
theorem sound:EntrySound E 238 en:=mkSound ground loops (by kernel_rfl) (fun x K=>eqv q37.F x.1 x.2.1 K)
end q169
namespace q170
abbrev A:List Ty:=[(.st 13)]
abbrev C:=(cTwo (.st 13) (.slice (.st 11)))
abbrev T:Type:=Node->((Node×(List Outp))->Prop)->Prop
def tv (f0:q169.T) (f1:q118.T) (f2:q166.T) (f3:q126.T):Tab:=[(238,mkEntry q169.A q169.C fun x=>f0 x.1 x.2.1),(49,mkEntry q118.A q118.C fun x=>f1 x.1 x.2.1),(229,mkEntry q166.A q166.C fun x=>f2 x.1),(50,mkEntry q126.A q126.C fun x=>f3 x.1 x.2.1)]
def tab:Tab:=tv q169.F q118.F q166.F q126.F
def FV (f0:q169.T) (f1:q118.T) (f2:q166.T) (f3:q126.T) (n_0:Node) (K:(Node×(List Outp))->Prop):Prop:=
 (bif(!n_0.store.sup.inc)then(K (n_0,([]:List Outp)))else(bif(n_0.wanted != 0)then(K (n_0,([]:List Outp)))else(f0 n_0.store.mask 0 fun r1=>(bif r1.2 then(f1 (⟨n_0.id,n_0.up,n_0.store,n_0.primary,n_0.state,n_0.session,n_0.peer,n_0.peerPri,n_0.req,n_0.asking,n_0.askId,(IntKind.i64.wrap (r1.1+1)),n_0.minted,n_0.draws,n_0.mints⟩:Node) (⟨5,0,(⟨0,(⟨0,0,0,0⟩:Vec),false,false,false,false,0⟩:Hello),r1.1,([]:Str)⟩:Packet) fun r2=>(K ((⟨n_0.id,n_0.up,n_0.store,n_0.primary,n_0.state,n_0.session,n_0.peer,n_0.peerPri,n_0.req,n_0.asking,n_0.askId,(IntKind.i64.wrap (r1.1+1)),n_0.minted,n_0.draws,n_0.mints⟩:Node),([(⟨1,r2.1,0,0,r2.2⟩:Outp)]:List Outp))))else(f2 n_0.peer.vector fun r3=>(f3 n_0 (⟨n_0.store.sup.blocks,r3,false,false,false⟩:Super) fun r4=>(bif(!r4.2)then(K (r4.1,([]:List Outp)))else(f1 r4.1 (⟨8,0,(⟨0,(⟨0,0,0,0⟩:Vec),false,false,false,false,0⟩:Hello),0,([]:Str)⟩:Packet) fun r5=>(K (r4.1,([(⟨1,r5.1,0,0,r5.2⟩:Outp)]:List Outp)))))))))))
def F (n_0:Node) (K:(Node×(List Outp))->Prop):Prop:=FV q169.F q118.F q166.F q126.F n_0 K
def en:Entry:=mkEntry A C fun x=>F x.1
theorem eqv (f0:q169.T) (f1:q118.T) (f2:q166.T) (f3:q126.T) (n_0:Node) (K:(Node×(List Outp))->Prop):apure E (tv f0 f1 f2 f3) (fun _=>none) 4 231 [enc (.st 13) n_0] (ansK C K)=FV f0 f1 f2 f3 n_0 K:=by kernel_rfl
theorem loops:LoopsOk E tab (fun _=>none) 4 231:=lpn _ _ _ _
theorem det (n_0:Node):Det (F n_0):=by
 unfold F FV
 repeat' with_reducible first|exact det_ret _|refine det_cond _ ?_ ?_|refine det_bind (q169.det _ _) (fun _=>?_)|refine det_bind (q118.det _ _) (fun _=>?_)|refine det_bind (q166.det _) (fun _=>?_)|refine det_bind (q126.det _ _) (fun _=>?_)
theorem edet a:Det (en a):=mkD (fun x:Dens A=>det x.1) a
theorem ground:Ground E tab:=gnd (tbc q169.sound (tbc q118.sound (tbc q166.sound (tbc q126.sound (tab_nil _))))) (dtc q169.edet (dtc q118.edet (dtc q166.edet (dtc q126.edet dtn))))
theorem sound:EntrySound E 231 en:=mkSound ground loops (by kernel_rfl) (fun x K=>eqv q169.F q118.F q166.F q126.F x.1 K)
end q170
namespace q171
abbrev A:List Ty:=[(.st 13),(.st 4)]
abbrev C:=(cTwo (.st 13) (.slice (.st 11)))
abbrev T:Type:=Node->Hello->((Node×(List Outp))->Prop)->Prop
def tv (f0:q165.T) (f1:q166.T) (f2:q126.T) (f3:q167.T) (f4:q139.T) (f5:q168.T) (f6:q170.T):Tab:=[(228,mkEntry q165.A q165.C fun x=>f0 x.1 x.2.1),(229,mkEntry q166.A q166.C fun x=>f1 x.1),(50,mkEntry q126.A q126.C fun x=>f2 x.1 x.2.1),(81,mkEntry q167.A q167.C fun x=>f3 x.1 x.2.1),(226,mkEntry q139.A q139.C fun x=>f4 x.1 x.2.1 x.2.2.1),(230,mkEntry q168.A q168.C fun x=>f5 x.1 x.2.1),(231,mkEntry q170.A q170.C fun x=>f6 x.1)]
def tab:Tab:=tv q165.F q166.F q126.F q167.F q139.F q168.F q170.F
def FV (f0:q165.T) (f1:q166.T) (f2:q126.T) (f3:q167.T) (f4:q139.T) (f5:q168.T) (f6:q170.T) (n_0:Node) (h:Hello) (K:(Node×(List Outp))->Prop):Prop:=
 (f0 n_0 h fun r1=>(bif(r1.1.kind==4)then(K (n_0,([(⟨3,n_0.id,0,0,([]:Str)⟩:Outp)]:List Outp)))else(bif(r1.1.kind==1)then(f1 n_0.store.sup.vector fun r2=>(f2 n_0 (⟨n_0.store.sup.blocks,r2,n_0.store.sup.inc,n_0.primary,n_0.store.sup.dis⟩:Super) fun r3=>(bif r3.2 then(K ((⟨r3.1.id,r3.1.up,r3.1.store,r3.1.primary,2,r3.1.session,h,h.pri,r3.1.req,r3.1.asking,r3.1.askId,r3.1.wanted,r3.1.minted,r3.1.draws,r3.1.mints⟩:Node),([]:List Outp)))else(K (r3.1,([]:List Outp))))))else(f3 n_0.store r1.2 fun r4=>(f4 n_0 r4.1 r4.2 fun r5=>(bif(!r5.2)then(K (r5.1,([]:List Outp)))else(bif(r1.1.source==n_0.id)then(K ((⟨r5.1.id,r5.1.up,r5.1.store,r5.1.primary,3,r5.1.session,h,h.pri,r5.1.req,r5.1.asking,r5.1.askId,r5.1.wanted,r5.1.minted,r5.1.draws,r5.1.mints⟩:Node),([]:List Outp)))else(f5 n_0.store.sup.vector h.vector.current fun r6=>(f2 r5.1 (⟨n_0.store.sup.blocks,r6,true,false,n_0.store.sup.dis⟩:Super) fun r7=>(bif(!r7.2)then(K (r7.1,([]:List Outp)))else(f6 (⟨r7.1.id,r7.1.up,r7.1.store,r7.1.primary,4,r7.1.session,h,h.pri,r7.1.req,r7.1.asking,r7.1.askId,r7.1.wanted,r7.1.minted,r7.1.draws,r7.1.mints⟩:Node) fun r8=>(K (r8.1,r8.2)))))))))))))
def F (n_0:Node) (h:Hello) (K:(Node×(List Outp))->Prop):Prop:=FV q165.F q166.F q126.F q167.F q139.F q168.F q170.F n_0 h K
def en:Entry:=mkEntry A C fun x=>F x.1 x.2.1
theorem eqv (f0:q165.T) (f1:q166.T) (f2:q126.T) (f3:q167.T) (f4:q139.T) (f5:q168.T) (f6:q170.T) (n_0:Node) (h:Hello) (K:(Node×(List Outp))->Prop):apure E (tv f0 f1 f2 f3 f4 f5 f6) (fun _=>none) 4 206 [enc (.st 13) n_0,enc (.st 4) h] (ansK C K)=FV f0 f1 f2 f3 f4 f5 f6 n_0 h K:=by kernel_rfl
theorem loops:LoopsOk E tab (fun _=>none) 4 206:=lpn _ _ _ _
theorem det (n_0:Node) (h:Hello):Det (F n_0 h):=by
 unfold F FV
 repeat' with_reducible first|exact det_ret _|refine det_cond _ ?_ ?_|refine det_bind (q165.det _ _) (fun _=>?_)|refine det_bind (q166.det _) (fun _=>?_)|refine det_bind (q126.det _ _) (fun _=>?_)|refine det_bind (q167.det _ _) (fun _=>?_)|refine det_bind (q139.det _ _ _) (fun _=>?_)|refine det_bind (q168.det _ _) (fun _=>?_)|refine det_bind (q170.det _) (fun _=>?_)
theorem edet a:Det (en a):=mkD (fun x:Dens A=>det x.1 x.2.1) a
theorem ground:Ground E tab:=gnd (tbc q165.sound (tbc q166.sound (tbc q126.sound (tbc q167.sound (tbc q139.sound (tbc q168.sound (tbc q170.sound (tab_nil _)))))))) (dtc q165.edet (dtc q166.edet (dtc q126.edet (dtc q167.edet (dtc q139.edet (dtc q168.edet (dtc q170.edet dtn)))))))
theorem sound:EntrySound E 206 en:=mkSound ground loops (by kernel_rfl) (fun x K=>eqv q165.F q166.F q126.F q167.F q139.F q168.F q170.F x.1 x.2.1 K)
end q171
namespace q172
abbrev A:List Ty:=[(.st 13),(.int .i64),.str]
abbrev C:=(cTwo (.st 13) (.slice (.st 11)))
abbrev T:Type:=Node->Int->Str->((Node×(List Outp))->Prop)->Prop
def tv (f0:q142.T) (f1:q118.T):Tab:=[(200,mkEntry q142.A q142.C fun x=>f0 x.1 x.2.1 x.2.2.1),(49,mkEntry q118.A q118.C fun x=>f1 x.1 x.2.1)]
def tab:Tab:=tv q142.F q118.F
def FV (f0:q142.T) (f1:q118.T) (n_0:Node) (block:Int) (data:Str) (K:(Node×(List Outp))->Prop):Prop:=
 (f0 n_0 block data fun r1=>(bif(!r1.2)then(K (r1.1,([]:List Outp)))else(f1 r1.1 (⟨3,0,(⟨0,(⟨0,0,0,0⟩:Vec),false,false,false,false,0⟩:Hello),block,([]:Str)⟩:Packet) fun r2=>(K (r1.1,([(⟨1,r2.1,0,0,r2.2⟩:Outp)]:List Outp))))))
def F (n_0:Node) (block:Int) (data:Str) (K:(Node×(List Outp))->Prop):Prop:=FV q142.F q118.F n_0 block data K
def en:Entry:=mkEntry A C fun x=>F x.1 x.2.1 x.2.2.1
theorem eqv (f0:q142.T) (f1:q118.T) (n_0:Node) (block:Int) (data:Str) (K:(Node×(List Outp))->Prop):apure E (tv f0 f1) (fun _=>none) 4 207 [enc (.st 13) n_0,enc (.int .i64) block,enc .str data] (ansK C K)=FV f0 f1 n_0 block data K:=by kernel_rfl
theorem loops:LoopsOk E tab (fun _=>none) 4 207:=lpn _ _ _ _
theorem det (n_0:Node) (block:Int) (data:Str):Det (F n_0 block data):=by
 unfold F FV
 repeat' with_reducible first|exact det_ret _|refine det_cond _ ?_ ?_|refine det_bind (q142.det _ _ _) (fun _=>?_)|refine det_bind (q118.det _ _) (fun _=>?_)
theorem edet a:Det (en a):=mkD (fun x:Dens A=>det x.1 x.2.1 x.2.2.1) a
theorem ground:Ground E tab:=gnd (tbc q142.sound (tbc q118.sound (tab_nil _))) (dtc q142.edet (dtc q118.edet dtn))
theorem sound:EntrySound E 207 en:=mkSound ground loops (by kernel_rfl) (fun x K=>eqv q142.F q118.F x.1 x.2.1 x.2.2.1 K)
end q172
namespace q173
abbrev A:List Ty:=[(.int .u32),(.slice (.int .i64))]
abbrev C:=(cTy (.int .u32))
abbrev T:Type:=Int->(List Int)->(Int->Prop)->Prop
def tv (f0:q37.T) (f1:q36.T):Tab:=[(161,mkEntry q37.A q37.C fun x=>f0 x.1 x.2.1),(162,mkEntry q36.A q36.C fun x=>f1 x.1)]
def tab:Tab:=tv q37.F q36.F
structure R where
def cR (_:R):St:={ fr:=fun _=>.top,hs:=hs0 }
def kR:Keep:={ ks:=[],bs:=[],hn:=0 }
structure L0 where
 m:Int
 l:(List Int)
 k:Int
def c0 (x:L0):St:={ fr:=lookL .top [(0,(.int .u32 x.m)),(1,(.sl .any (.int .i64) x.l)),(5,(.int .i64 x.k))],hs:={ hp:=lookL .dead [],hn:=0 } }
def kp0:Keep:={ ks:=[(0,none),(1,none),(5,none)],bs:=[],hn:=0 }
def p0 (st:St) (K:L0->Prop):Prop:=gInt .u32 (st.fr 0) fun a1=>gSl .any (.int .i64) (st.fr 1) fun a2=>gInt .i64 (st.fr 5) fun a3=>K ⟨a1,a2,a3⟩
set_option maxHeartbeats 4000000 in
theorem p0_ok (st:St) (K:L0->Prop) (h:p0 st K):∃ x,keepSt kp0 st=c0 x∧K x:=by
 obtain ⟨a1,h0,h⟩:=gInt_elim h
 obtain ⟨a2,h1,h⟩:=gSl_elim h
 obtain ⟨a3,h2,h⟩:=gInt_elim h
 refine⟨_,?_,h⟩
 simp only [keepSt,kp0,List.map,h0,h1,h2]
 rfl
def b0V (f0:q37.T) (f1:q36.T) (rec kx:L0->Prop) (kr:R->Prop) (x:L0):Prop:=
 (bif(decide (x.k < (x.l.length:Int)))then(oget (getI x.l x.k) fun v1=>(f0 x.m v1 fun r2=>(bif r2 then(oget (getI x.l x.k) fun v3=>(f1 v3 fun r4=>(rec ⟨(IntKind.u32.wrap (x.m - r4)),x.l,(IntKind.i64.wrap (x.k+1))⟩)))else(rec ⟨x.m,x.l,(IntKind.i64.wrap (x.k+1))⟩))))else(kx ⟨x.m,x.l,x.k⟩))
def ltV (f0:q37.T) (f1:q36.T):Nat->Option LSpec
 | 0=>some (mkLoop 0 kp0 kR p0 c0 cR (b0V f0 f1))
 | _=>none
def lt:Nat->Option LSpec:=ltV q37.F q36.F
def FV (f0:q37.T) (f1:q36.T) (m:Int) (l:(List Int)) (K:Int->Prop):Prop:=
 (∃ n,loopB (b0V f0 f1) n (fun x5=>(K x5.m)) (fun _=>False) ⟨m,l,0⟩)
def F (m:Int) (l:(List Int)) (K:Int->Prop):Prop:=FV q37.F q36.F m l K
def en:Entry:=mkEntry A C fun x=>F x.1 x.2.1
theorem eqv (f0:q37.T) (f1:q36.T) (m:Int) (l:(List Int)) (K:Int->Prop):apure E (tv f0 f1) (ltV f0 f1) 4 118 [enc (.int .u32) m,enc (.slice (.int .i64)) l] (ansK C K)=FV f0 f1 m l K:=by kernel_rfl
theorem l0v (f0:q37.T) (f1:q36.T) (R:St->Prop) (Kx:Nat->St->Prop) (Kr:St->Prop) (x:L0):acode E (tv f0 f1) (afun E (tv f0 f1) 4) 26 (ltV f0 f1) ((loopsIn E.P 118).getD 0 (0,.skip)).2 0 (fun s=>R (keepSt kp0 s)) (fun j s=>Kx j (keepSt kp0 s)) (fun s=>Kr (keepSt kR s)) (c0 x)=b0V f0 f1 (fun x=>R (c0 x)) (fun x=>Kx 0 (c0 x)) (fun r=>Kr (cR r)) x:=by kernel_rfl
theorem l0_ok:LSound E tab (afun E tab 4) 26 lt 0 ((loopsIn E.P 118).getD 0 (0,.skip)).2 (mkLoop 0 kp0 kR p0 c0 cR (b0V q37.F q36.F)):=mkLoop_sound (by decide) (by decide) p0_ok (fun R Kx Kr x=>l0v q37.F q36.F R Kx Kr x)
theorem loops:LoopsOk E tab lt 4 118:=loops_of (nt:=26) (ids:=[0]) (by kernel_rfl) (by kernel_rfl) (by
 intro k i hk l hl
 match k,hk with
 | 0,hk=>cases hk;cases hl;exact l0_ok
 | _+1,hk=>exact absurd hk (by simp))
theorem det (m:Int) (l:(List Int)):Det (F m l):=by
 unfold F FV
 repeat' with_reducible first|exact det_ret _|exact det_false|refine det_cond _ ?_ ?_|refine det_oget _ (fun _=>?_)|refine det_bind (q37.det _ _) (fun _=>?_)|refine det_bind (q36.det _) (fun _=>?_)|refine det_loop (fun _=>?_) (fun _=>?_) (fun _=>?_) _ | unfold b0V
theorem edet a:Det (en a):=mkD (fun x:Dens A=>det x.1 x.2.1) a
theorem ground:Ground E tab:=gnd (tbc q37.sound (tbc q36.sound (tab_nil _))) (dtc q37.edet (dtc q36.edet dtn))
theorem sound:EntrySound E 118 en:=mkSound ground loops (by kernel_rfl) (fun x K=>eqv q37.F q36.F x.1 x.2.1 K)
end q173
namespace q174
abbrev A:List Ty:=[(.st 8),(.int .i64)]
abbrev C:=(cTwo (.st 8) (.int .i64))
abbrev T:Type:=Store->Int->((Store×Int)->Prop)->Prop
def tv (f0:q173.T) (f1:q135.T):Tab:=[(118,mkEntry q173.A q173.C fun x=>f0 x.1 x.2.1),(119,mkEntry q135.A q135.C fun x=>f1 x.1 x.2.1)]
def tab:Tab:=tv q173.F q135.F
def FV (f0:q173.T) (f1:q135.T) (s:Store) (i:Int) (K:(Store×Int)->Prop):Prop:=
 (bif(decide (i < 0))then(K (s,4))else(bif(decide (i≥s.sup.blocks))then(K (s,4))else(f0 s.mask ([i]:List Int) fun r1=>(bif(r1==s.mask)then(K (s,0))else(f1 s.disk r1 fun r2=>(bif(r2.2==0)then(K ((⟨r2.1,s.sup,r1⟩:Store),r2.2))else(K ((⟨r2.1,s.sup,s.mask⟩:Store),r2.2))))))))
def F (s:Store) (i:Int) (K:(Store×Int)->Prop):Prop:=FV q173.F q135.F s i K
def en:Entry:=mkEntry A C fun x=>F x.1 x.2.1
theorem eqv (f0:q173.T) (f1:q135.T) (s:Store) (i:Int) (K:(Store×Int)->Prop):apure E (tv f0 f1) (fun _=>none) 4 80 [enc (.st 8) s,enc (.int .i64) i] (ansK C K)=FV f0 f1 s i K:=by kernel_rfl
theorem loops:LoopsOk E tab (fun _=>none) 4 80:=lpn _ _ _ _
theorem det (s:Store) (i:Int):Det (F s i):=by
 unfold F FV
 repeat' with_reducible first|exact det_ret _|refine det_cond _ ?_ ?_|refine det_bind (q173.det _ _) (fun _=>?_)|refine det_bind (q135.det _ _) (fun _=>?_)
theorem edet a:Det (en a):=mkD (fun x:Dens A=>det x.1 x.2.1) a
theorem ground:Ground E tab:=gnd (tbc q173.sound (tbc q135.sound (tab_nil _))) (dtc q173.edet (dtc q135.edet dtn))
theorem sound:EntrySound E 80 en:=mkSound ground loops (by kernel_rfl) (fun x K=>eqv q173.F q135.F x.1 x.2.1 K)
end q174
namespace q175
abbrev A:List Ty:=[(.st 13),(.int .i64)]
abbrev C:=(cTwo (.st 13) .bool)
abbrev T:Type:=Node->Int->((Node×Bool)->Prop)->Prop
def tv (f0:q174.T) (f1:q139.T):Tab:=[(80,mkEntry q174.A q174.C fun x=>f0 x.1 x.2.1),(226,mkEntry q139.A q139.C fun x=>f1 x.1 x.2.1 x.2.2.1)]
def tab:Tab:=tv q174.F q139.F
def FV (f0:q174.T) (f1:q139.T) (n_0:Node) (block:Int) (K:(Node×Bool)->Prop):Prop:=
 (f0 n_0.store block fun r1=>(f1 n_0 r1.1 r1.2 fun r2=>(K (r2.1,r2.2))))
def F (n_0:Node) (block:Int) (K:(Node×Bool)->Prop):Prop:=FV q174.F q139.F n_0 block K
def en:Entry:=mkEntry A C fun x=>F x.1 x.2.1
theorem eqv (f0:q174.T) (f1:q139.T) (n_0:Node) (block:Int) (K:(Node×Bool)->Prop):apure E (tv f0 f1) (fun _=>none) 4 232 [enc (.st 13) n_0,enc (.int .i64) block] (ansK C K)=FV f0 f1 n_0 block K:=by kernel_rfl
theorem loops:LoopsOk E tab (fun _=>none) 4 232:=lpn _ _ _ _
theorem det (n_0:Node) (block:Int):Det (F n_0 block):=by
 unfold F FV
 repeat' with_reducible first|exact det_ret _|refine det_bind (q174.det _ _) (fun _=>?_)|refine det_bind (q139.det _ _ _) (fun _=>?_)
theorem edet a:Det (en a):=mkD (fun x:Dens A=>det x.1 x.2.1) a
theorem ground:Ground E tab:=gnd (tbc q174.sound (tbc q139.sound (tab_nil _))) (dtc q174.edet (dtc q139.edet dtn))
theorem sound:EntrySound E 232 en:=mkSound ground loops (by kernel_rfl) (fun x K=>eqv q174.F q139.F x.1 x.2.1 K)
end q175
namespace q176
abbrev A:List Ty:=[(.st 13),(.int .i64)]
abbrev C:=(cTwo (.st 13) (.slice (.st 11)))
abbrev T:Type:=Node->Int->((Node×(List Outp))->Prop)->Prop
def tv (f0:q108.T) (f1:q175.T) (f2:q118.T):Tab:=[(51,mkEntry q108.A q108.C fun x=>f0 x.1 x.2.1 x.2.2.1 x.2.2.2.1),(232,mkEntry q175.A q175.C fun x=>f1 x.1 x.2.1),(49,mkEntry q118.A q118.C fun x=>f2 x.1 x.2.1)]
def tab:Tab:=tv q108.F q175.F q118.F
def FV (f0:q108.T) (f1:q175.T) (f2:q118.T) (n_0:Node) (block:Int) (K:(Node×(List Outp))->Prop):Prop:=
 (bif(!n_0.req.on)then(K (n_0,([]:List Outp)))else(bif(n_0.req.block != block)then(K (n_0,([]:List Outp)))else(f0 n_0 n_0.req.id 0 ([]:Str) fun r1=>(f1 (⟨n_0.id,n_0.up,n_0.store,n_0.primary,n_0.state,n_0.session,n_0.peer,n_0.peerPri,(⟨false,0,0,([]:Str)⟩:Req),n_0.asking,n_0.askId,n_0.wanted,n_0.minted,n_0.draws,n_0.mints⟩:Node) block fun r2=>(bif(!r2.2)then(K (r2.1,([r1]:List Outp)))else(f2 r2.1 (⟨4,0,(⟨0,(⟨0,0,0,0⟩:Vec),false,false,false,false,0⟩:Hello),block,([]:Str)⟩:Packet) fun r3=>(bif(decide ((([r1]:List Outp).length+([(⟨1,r3.1,0,0,r3.2⟩:Outp)]:List Outp).length) * 48≤room))then(K (r2.1,(([r1]:List Outp)++([(⟨1,r3.1,0,0,r3.2⟩:Outp)]:List Outp))))else False)))))))
def F (n_0:Node) (block:Int) (K:(Node×(List Outp))->Prop):Prop:=FV q108.F q175.F q118.F n_0 block K
def en:Entry:=mkEntry A C fun x=>F x.1 x.2.1
theorem eqv (f0:q108.T) (f1:q175.T) (f2:q118.T) (n_0:Node) (block:Int) (K:(Node×(List Outp))->Prop):apure E (tv f0 f1 f2) (fun _=>none) 4 208 [enc (.st 13) n_0,enc (.int .i64) block] (ansK C K)=FV f0 f1 f2 n_0 block K:=by kernel_rfl
theorem loops:LoopsOk E tab (fun _=>none) 4 208:=lpn _ _ _ _
theorem det (n_0:Node) (block:Int):Det (F n_0 block):=by
 unfold F FV
 repeat' with_reducible first|exact det_ret _|exact det_false|refine det_cond _ ?_ ?_|refine det_bind (q108.det _ _ _ _) (fun _=>?_)|refine det_bind (q175.det _ _) (fun _=>?_)|refine det_bind (q118.det _ _) (fun _=>?_)
theorem edet a:Det (en a):=mkD (fun x:Dens A=>det x.1 x.2.1) a
theorem ground:Ground E tab:=gnd (tbc q108.sound (tbc q175.sound (tbc q118.sound (tab_nil _)))) (dtc q108.edet (dtc q175.edet (dtc q118.edet dtn)))
theorem sound:EntrySound E 208 en:=mkSound ground loops (by kernel_rfl) (fun x K=>eqv q108.F q175.F q118.F x.1 x.2.1 K)
end q176
namespace q177
abbrev A:List Ty:=[(.st 13),(.int .i64)]
abbrev C:=(cTwo (.st 13) (.slice (.st 11)))
abbrev T:Type:=Node->Int->((Node×(List Outp))->Prop)->Prop
def tv (f0:q175.T):Tab:=[(232,mkEntry q175.A q175.C fun x=>f0 x.1 x.2.1)]
def tab:Tab:=tv q175.F
def FV (f0:q175.T) (n_0:Node) (block:Int) (K:(Node×(List Outp))->Prop):Prop:=
 (f0 n_0 block fun r1=>(K (r1.1,([]:List Outp))))
def F (n_0:Node) (block:Int) (K:(Node×(List Outp))->Prop):Prop:=FV q175.F n_0 block K
def en:Entry:=mkEntry A C fun x=>F x.1 x.2.1
theorem eqv (f0:q175.T) (n_0:Node) (block:Int) (K:(Node×(List Outp))->Prop):apure E (tv f0) (fun _=>none) 4 209 [enc (.st 13) n_0,enc (.int .i64) block] (ansK C K)=FV f0 n_0 block K:=by kernel_rfl
theorem loops:LoopsOk E tab (fun _=>none) 4 209:=lpn _ _ _ _
theorem det (n_0:Node) (block:Int):Det (F n_0 block):=by
 unfold F FV
 repeat' with_reducible first|exact det_ret _|refine det_bind (q175.det _ _) (fun _=>?_)
theorem edet a:Det (en a):=mkD (fun x:Dens A=>det x.1 x.2.1) a
theorem ground:Ground E tab:=gnd (tbc q175.sound (tab_nil _)) (dtc q175.edet dtn)
theorem sound:EntrySound E 209 en:=mkSound ground loops (by kernel_rfl) (fun x K=>eqv q175.F x.1 x.2.1 K)
end q177
namespace q178
abbrev A:List Ty:=[(.st 13),(.int .i64)]
abbrev C:=(cTwo (.st 13) (.slice (.st 11)))
abbrev T:Type:=Node->Int->((Node×(List Outp))->Prop)->Prop
def tv (f0:q130.T) (f1:q118.T):Tab:=[(58,mkEntry q130.A q130.C fun x=>f0 x.1 x.2.1),(49,mkEntry q118.A q118.C fun x=>f1 x.1 x.2.1)]
def tab:Tab:=tv q130.F q118.F
def FV (f0:q130.T) (f1:q118.T) (n_0:Node) (block:Int) (K:(Node×(List Outp))->Prop):Prop:=
 (f0 n_0.store block fun r1=>(f1 n_0 (⟨6,0,(⟨0,(⟨0,0,0,0⟩:Vec),false,false,false,false,0⟩:Hello),block,r1.1⟩:Packet) fun r2=>(K (n_0,([(⟨1,r2.1,0,0,r2.2⟩:Outp)]:List Outp)))))
def F (n_0:Node) (block:Int) (K:(Node×(List Outp))->Prop):Prop:=FV q130.F q118.F n_0 block K
def en:Entry:=mkEntry A C fun x=>F x.1 x.2.1
theorem eqv (f0:q130.T) (f1:q118.T) (n_0:Node) (block:Int) (K:(Node×(List Outp))->Prop):apure E (tv f0 f1) (fun _=>none) 4 210 [enc (.st 13) n_0,enc (.int .i64) block] (ansK C K)=FV f0 f1 n_0 block K:=by kernel_rfl
theorem loops:LoopsOk E tab (fun _=>none) 4 210:=lpn _ _ _ _
theorem det (n_0:Node) (block:Int):Det (F n_0 block):=by
 unfold F FV
 repeat' with_reducible first|exact det_ret _|refine det_bind (q130.det _ _) (fun _=>?_)|refine det_bind (q118.det _ _) (fun _=>?_)
theorem edet a:Det (en a):=mkD (fun x:Dens A=>det x.1 x.2.1) a
theorem ground:Ground E tab:=gnd (tbc q130.sound (tbc q118.sound (tab_nil _))) (dtc q130.edet (dtc q118.edet dtn))
theorem sound:EntrySound E 210 en:=mkSound ground loops (by kernel_rfl) (fun x K=>eqv q130.F q118.F x.1 x.2.1 K)
end q178
namespace q179
abbrev A:List Ty:=[(.st 13),(.int .i64),.str]
abbrev C:=(cTwo (.st 13) (.slice (.st 11)))
abbrev T:Type:=Node->Int->Str->((Node×(List Outp))->Prop)->Prop
def tv (f0:q141.T) (f1:q139.T) (f2:q175.T) (f3:q118.T) (f4:q170.T):Tab:=[(82,mkEntry q141.A q141.C fun x=>f0 x.1 x.2.1 x.2.2.1),(226,mkEntry q139.A q139.C fun x=>f1 x.1 x.2.1 x.2.2.1),(232,mkEntry q175.A q175.C fun x=>f2 x.1 x.2.1),(49,mkEntry q118.A q118.C fun x=>f3 x.1 x.2.1),(231,mkEntry q170.A q170.C fun x=>f4 x.1)]
def tab:Tab:=tv q141.F q139.F q175.F q118.F q170.F
def FV (f0:q141.T) (f1:q139.T) (f2:q175.T) (f3:q118.T) (f4:q170.T) (n_0:Node) (block:Int) (data:Str) (K:(Node×(List Outp))->Prop):Prop:=
 (bif(n_0.wanted != (IntKind.i64.wrap (block+1)))then(K (n_0,([]:List Outp)))else(f0 n_0.store block data fun r1=>(f1 n_0 r1.1 r1.2 fun r2=>(bif(!r2.2)then(K (r2.1,([]:List Outp)))else(f2 r2.1 block fun r3=>(bif(!r3.2)then(K (r3.1,([]:List Outp)))else(f3 (⟨r3.1.id,r3.1.up,r3.1.store,r3.1.primary,r3.1.state,r3.1.session,r3.1.peer,r3.1.peerPri,r3.1.req,r3.1.asking,r3.1.askId,0,r3.1.minted,r3.1.draws,r3.1.mints⟩:Node) (⟨7,0,(⟨0,(⟨0,0,0,0⟩:Vec),false,false,false,false,0⟩:Hello),block,([]:Str)⟩:Packet) fun r4=>(f4 (⟨r3.1.id,r3.1.up,r3.1.store,r3.1.primary,r3.1.state,r3.1.session,r3.1.peer,r3.1.peerPri,r3.1.req,r3.1.asking,r3.1.askId,0,r3.1.minted,r3.1.draws,r3.1.mints⟩:Node) fun r5=>(bif(Nat.beq r5.2.length 0)then(K (r5.1,([(⟨1,r4.1,0,0,r4.2⟩:Outp)]:List Outp)))else(bif(decide ((([(⟨1,r4.1,0,0,r4.2⟩:Outp)]:List Outp).length+r5.2.length) * 48≤room))then(K (r5.1,(([(⟨1,r4.1,0,0,r4.2⟩:Outp)]:List Outp)++r5.2)))else False))))))))))
def F (n_0:Node) (block:Int) (data:Str) (K:(Node×(List Outp))->Prop):Prop:=FV q141.F q139.F q175.F q118.F q170.F n_0 block data K
def en:Entry:=mkEntry A C fun x=>F x.1 x.2.1 x.2.2.1
theorem eqv (f0:q141.T) (f1:q139.T) (f2:q175.T) (f3:q118.T) (f4:q170.T) (n_0:Node) (block:Int) (data:Str) (K:(Node×(List Outp))->Prop):apure E (tv f0 f1 f2 f3 f4) (fun _=>none) 4 211 [enc (.st 13) n_0,enc (.int .i64) block,enc .str data] (ansK C K)=FV f0 f1 f2 f3 f4 n_0 block data K:=by kernel_rfl
theorem loops:LoopsOk E tab (fun _=>none) 4 211:=lpn _ _ _ _
theorem det (n_0:Node) (block:Int) (data:Str):Det (F n_0 block data):=by
 unfold F FV
 repeat' with_reducible first|exact det_ret _|exact det_false|refine det_cond _ ?_ ?_|refine det_bind (q141.det _ _ _) (fun _=>?_)|refine det_bind (q139.det _ _ _) (fun _=>?_)|refine det_bind (q175.det _ _) (fun _=>?_)|refine det_bind (q118.det _ _) (fun _=>?_)|refine det_bind (q170.det _) (fun _=>?_)
theorem edet a:Det (en a):=mkD (fun x:Dens A=>det x.1 x.2.1 x.2.2.1) a
theorem ground:Ground E tab:=gnd (tbc q141.sound (tbc q139.sound (tbc q175.sound (tbc q118.sound (tbc q170.sound (tab_nil _)))))) (dtc q141.edet (dtc q139.edet (dtc q175.edet (dtc q118.edet (dtc q170.edet dtn)))))
theorem sound:EntrySound E 211 en:=mkSound ground loops (by kernel_rfl) (fun x K=>eqv q141.F q139.F q175.F q118.F q170.F x.1 x.2.1 x.2.2.1 K)
end q179
namespace q180
abbrev A:List Ty:=[(.st 13),(.int .i64)]
abbrev C:=(cTwo (.st 13) (.slice (.st 11)))
abbrev T:Type:=Node->Int->((Node×(List Outp))->Prop)->Prop
def tv (f0:q175.T):Tab:=[(232,mkEntry q175.A q175.C fun x=>f0 x.1 x.2.1)]
def tab:Tab:=tv q175.F
def FV (f0:q175.T) (n_0:Node) (block:Int) (K:(Node×(List Outp))->Prop):Prop:=
 (bif n_0.req.on then(bif(n_0.req.block==block)then(K (n_0,([]:List Outp)))else(f0 n_0 block fun r1=>(K (r1.1,([]:List Outp)))))else(f0 n_0 block fun r2=>(K (r2.1,([]:List Outp)))))
def F (n_0:Node) (block:Int) (K:(Node×(List Outp))->Prop):Prop:=FV q175.F n_0 block K
def en:Entry:=mkEntry A C fun x=>F x.1 x.2.1
theorem eqv (f0:q175.T) (n_0:Node) (block:Int) (K:(Node×(List Outp))->Prop):apure E (tv f0) (fun _=>none) 4 212 [enc (.st 13) n_0,enc (.int .i64) block] (ansK C K)=FV f0 n_0 block K:=by kernel_rfl
theorem loops:LoopsOk E tab (fun _=>none) 4 212:=lpn _ _ _ _
theorem det (n_0:Node) (block:Int):Det (F n_0 block):=by
 unfold F FV
 repeat' with_reducible first|exact det_ret _|refine det_cond _ ?_ ?_|refine det_bind (q175.det _ _) (fun _=>?_)
theorem edet a:Det (en a):=mkD (fun x:Dens A=>det x.1 x.2.1) a
theorem ground:Ground E tab:=gnd (tbc q175.sound (tab_nil _)) (dtc q175.edet dtn)
theorem sound:EntrySound E 212 en:=mkSound ground loops (by kernel_rfl) (fun x K=>eqv q175.F x.1 x.2.1 K)
end q180
namespace q181
abbrev A:List Ty:=[(.st 13)]
abbrev C:=(cTwo (.st 13) (.slice (.st 11)))
abbrev T:Type:=Node->((Node×(List Outp))->Prop)->Prop
def tv (f0:q166.T) (f1:q126.T) (f2:q118.T):Tab:=[(229,mkEntry q166.A q166.C fun x=>f0 x.1),(50,mkEntry q126.A q126.C fun x=>f1 x.1 x.2.1),(49,mkEntry q118.A q118.C fun x=>f2 x.1 x.2.1)]
def tab:Tab:=tv q166.F q126.F q118.F
def FV (f0:q166.T) (f1:q126.T) (f2:q118.T) (n_0:Node) (K:(Node×(List Outp))->Prop):Prop:=
 (f0 n_0.store.sup.vector fun r1=>(f1 n_0 (⟨n_0.store.sup.blocks,r1,n_0.store.sup.inc,n_0.primary,n_0.store.sup.dis⟩:Super) fun r2=>(bif(!r2.2)then(K (r2.1,([]:List Outp)))else(f2 (⟨r2.1.id,r2.1.up,r2.1.store,r2.1.primary,2,r2.1.session,r2.1.peer,r2.1.peerPri,r2.1.req,r2.1.asking,r2.1.askId,r2.1.wanted,r2.1.minted,r2.1.draws,r2.1.mints⟩:Node) (⟨9,0,(⟨0,(⟨0,0,0,0⟩:Vec),false,false,false,false,0⟩:Hello),0,([]:Str)⟩:Packet) fun r3=>(K ((⟨r2.1.id,r2.1.up,r2.1.store,r2.1.primary,2,r2.1.session,r2.1.peer,r2.1.peerPri,r2.1.req,r2.1.asking,r2.1.askId,r2.1.wanted,r2.1.minted,r2.1.draws,r2.1.mints⟩:Node),([(⟨1,r3.1,0,0,r3.2⟩:Outp)]:List Outp)))))))
def F (n_0:Node) (K:(Node×(List Outp))->Prop):Prop:=FV q166.F q126.F q118.F n_0 K
def en:Entry:=mkEntry A C fun x=>F x.1
theorem eqv (f0:q166.T) (f1:q126.T) (f2:q118.T) (n_0:Node) (K:(Node×(List Outp))->Prop):apure E (tv f0 f1 f2) (fun _=>none) 4 213 [enc (.st 13) n_0] (ansK C K)=FV f0 f1 f2 n_0 K:=by kernel_rfl
theorem loops:LoopsOk E tab (fun _=>none) 4 213:=lpn _ _ _ _
theorem det (n_0:Node):Det (F n_0):=by
 unfold F FV
 repeat' with_reducible first|exact det_ret _|refine det_cond _ ?_ ?_|refine det_bind (q166.det _) (fun _=>?_)|refine det_bind (q126.det _ _) (fun _=>?_)|refine det_bind (q118.det _ _) (fun _=>?_)
theorem edet a:Det (en a):=mkD (fun x:Dens A=>det x.1) a
theorem ground:Ground E tab:=gnd (tbc q166.sound (tbc q126.sound (tbc q118.sound (tab_nil _)))) (dtc q166.edet (dtc q126.edet (dtc q118.edet dtn)))
theorem sound:EntrySound E 213 en:=mkSound ground loops (by kernel_rfl) (fun x K=>eqv q166.F q126.F q118.F x.1 K)
end q181
namespace q182
abbrev A:List Ty:=[(.st 13)]
abbrev C:=(cTy (.st 13))
abbrev T:Type:=Node->(Node->Prop)->Prop
def tab:Tab:=[]
def F (n_0:Node) (K:Node->Prop):Prop:=
 (K (⟨n_0.id,n_0.up,n_0.store,n_0.primary,2,n_0.session,n_0.peer,n_0.peerPri,n_0.req,n_0.asking,n_0.askId,n_0.wanted,n_0.minted,n_0.draws,n_0.mints⟩:Node))
def en:Entry:=mkEntry A C fun x=>F x.1
theorem eqv (n_0:Node) (K:Node->Prop):apure E tab (fun _=>none) 4 214 [enc (.st 13) n_0] (ansK C K)=F n_0 K:=by kernel_rfl
theorem loops:LoopsOk E tab (fun _=>none) 4 214:=lpn _ _ _ _
theorem det (n_0:Node):Det (F n_0):=by
 unfold F
 repeat' with_reducible first|exact det_ret _
theorem edet a:Det (en a):=mkD (fun x:Dens A=>det x.1) a
theorem ground:Ground E tab:=gnd (tab_nil _) dtn
theorem sound:EntrySound E 214 en:=mkSound ground loops (by kernel_rfl) (fun x K=>eqv  x.1 K)
end q182
namespace q183
abbrev A:List Ty:=[(.st 13),(.int .i64)]
abbrev C:=(cTwo (.st 13) (.slice (.st 11)))
abbrev T:Type:=Node->Int->((Node×(List Outp))->Prop)->Prop
def tv (f0:q118.T) (f1:q108.T) (f2:q126.T):Tab:=[(49,mkEntry q118.A q118.C fun x=>f0 x.1 x.2.1),(51,mkEntry q108.A q108.C fun x=>f1 x.1 x.2.1 x.2.2.1 x.2.2.2.1),(50,mkEntry q126.A q126.C fun x=>f2 x.1 x.2.1)]
def tab:Tab:=tv q118.F q108.F q126.F
def FV (f0:q118.T) (f1:q108.T) (f2:q126.T) (n_0:Node) (kind:Int) (K:(Node×(List Outp))->Prop):Prop:=
 (bif(kind==10)then(bif n_0.primary then(f0 n_0 (⟨12,0,(⟨0,(⟨0,0,0,0⟩:Vec),false,false,false,false,0⟩:Hello),0,([]:Str)⟩:Packet) fun r1=>(K (n_0,([(⟨1,r1.1,0,0,r1.2⟩:Outp)]:List Outp))))else(bif n_0.asking then(f0 n_0 (⟨12,0,(⟨0,(⟨0,0,0,0⟩:Vec),false,false,false,false,0⟩:Hello),0,([]:Str)⟩:Packet) fun r2=>(K (n_0,([(⟨1,r2.1,0,0,r2.2⟩:Outp)]:List Outp))))else(f0 (⟨n_0.id,n_0.up,n_0.store,n_0.primary,n_0.state,n_0.session,n_0.peer,true,n_0.req,n_0.asking,n_0.askId,n_0.wanted,n_0.minted,n_0.draws,n_0.mints⟩:Node) (⟨11,0,(⟨0,(⟨0,0,0,0⟩:Vec),false,false,false,false,0⟩:Hello),0,([]:Str)⟩:Packet) fun r3=>(K ((⟨n_0.id,n_0.up,n_0.store,n_0.primary,n_0.state,n_0.session,n_0.peer,true,n_0.req,n_0.asking,n_0.askId,n_0.wanted,n_0.minted,n_0.draws,n_0.mints⟩:Node),([(⟨1,r3.1,0,0,r3.2⟩:Outp)]:List Outp))))))else(bif(kind==12)then(f1 (⟨n_0.id,n_0.up,n_0.store,n_0.primary,n_0.state,n_0.session,n_0.peer,n_0.peerPri,n_0.req,false,0,n_0.wanted,n_0.minted,n_0.draws,n_0.mints⟩:Node) n_0.askId 12 ([]:Str) fun r4=>(K ((⟨n_0.id,n_0.up,n_0.store,n_0.primary,n_0.state,n_0.session,n_0.peer,n_0.peerPri,n_0.req,false,0,n_0.wanted,n_0.minted,n_0.draws,n_0.mints⟩:Node),([r4]:List Outp))))else(bif(kind==13)then(K ((⟨n_0.id,n_0.up,n_0.store,n_0.primary,n_0.state,n_0.session,n_0.peer,false,n_0.req,n_0.asking,n_0.askId,n_0.wanted,n_0.minted,n_0.draws,n_0.mints⟩:Node),([]:List Outp)))else(f2 n_0 (⟨n_0.store.sup.blocks,n_0.store.sup.vector,n_0.store.sup.inc,true,n_0.store.sup.dis⟩:Super) fun r5=>(bif(!r5.2)then(K (r5.1,([]:List Outp)))else(f1 (⟨r5.1.id,r5.1.up,r5.1.store,true,r5.1.state,r5.1.session,r5.1.peer,r5.1.peerPri,r5.1.req,false,0,r5.1.wanted,r5.1.minted,r5.1.draws,r5.1.mints⟩:Node) n_0.askId 0 ([]:Str) fun r6=>(K ((⟨r5.1.id,r5.1.up,r5.1.store,true,r5.1.state,r5.1.session,r5.1.peer,r5.1.peerPri,r5.1.req,false,0,r5.1.wanted,r5.1.minted,r5.1.draws,r5.1.mints⟩:Node),([r6]:List Outp)))))))))
def F (n_0:Node) (kind:Int) (K:(Node×(List Outp))->Prop):Prop:=FV q118.F q108.F q126.F n_0 kind K
def en:Entry:=mkEntry A C fun x=>F x.1 x.2.1
theorem eqv (f0:q118.T) (f1:q108.T) (f2:q126.T) (n_0:Node) (kind:Int) (K:(Node×(List Outp))->Prop):apure E (tv f0 f1 f2) (fun _=>none) 4 215 [enc (.st 13) n_0,enc (.int .i64) kind] (ansK C K)=FV f0 f1 f2 n_0 kind K:=by kernel_rfl
theorem loops:LoopsOk E tab (fun _=>none) 4 215:=lpn _ _ _ _
theorem det (n_0:Node) (kind:Int):Det (F n_0 kind):=by
 unfold F FV
 repeat' with_reducible first|exact det_ret _|refine det_cond _ ?_ ?_|refine det_bind (q118.det _ _) (fun _=>?_)|refine det_bind (q108.det _ _ _ _) (fun _=>?_)|refine det_bind (q126.det _ _) (fun _=>?_)
theorem edet a:Det (en a):=mkD (fun x:Dens A=>det x.1 x.2.1) a
theorem ground:Ground E tab:=gnd (tbc q118.sound (tbc q108.sound (tbc q126.sound (tab_nil _)))) (dtc q118.edet (dtc q108.edet (dtc q126.edet dtn)))
theorem sound:EntrySound E 215 en:=mkSound ground loops (by kernel_rfl) (fun x K=>eqv q118.F q108.F q126.F x.1 x.2.1 K)
end q183
namespace q184
abbrev A:List Ty:=[(.st 13),.str]
abbrev C:=(cTwo (.st 13) (.slice (.st 11)))
abbrev T:Type:=Node->Str->((Node×(List Outp))->Prop)->Prop
def tv (f0:q154.T) (f1:q155.T) (f2:q171.T) (f3:q172.T) (f4:q176.T) (f5:q177.T) (f6:q178.T) (f7:q179.T) (f8:q180.T) (f9:q181.T) (f10:q182.T) (f11:q183.T):Tab:=[(171,mkEntry q154.A q154.C fun x=>f0 x.1 x.2.1),(205,mkEntry q155.A q155.C fun x=>f1 x.1 x.2.1),(206,mkEntry q171.A q171.C fun x=>f2 x.1 x.2.1),(207,mkEntry q172.A q172.C fun x=>f3 x.1 x.2.1 x.2.2.1),(208,mkEntry q176.A q176.C fun x=>f4 x.1 x.2.1),(209,mkEntry q177.A q177.C fun x=>f5 x.1 x.2.1),(210,mkEntry q178.A q178.C fun x=>f6 x.1 x.2.1),(211,mkEntry q179.A q179.C fun x=>f7 x.1 x.2.1 x.2.2.1),(212,mkEntry q180.A q180.C fun x=>f8 x.1 x.2.1),(213,mkEntry q181.A q181.C fun x=>f9 x.1),(214,mkEntry q182.A q182.C fun x=>f10 x.1),(215,mkEntry q183.A q183.C fun x=>f11 x.1 x.2.1)]
def tab:Tab:=tv q154.F q155.F q171.F q172.F q176.F q177.F q178.F q179.F q180.F q181.F q182.F q183.F
def FV (f0:q154.T) (f1:q155.T) (f2:q171.T) (f3:q172.T) (f4:q176.T) (f5:q177.T) (f6:q178.T) (f7:q179.T) (f8:q180.T) (f9:q181.T) (f10:q182.T) (f11:q183.T) (n_0:Node) (b_1:Str) (K:(Node×(List Outp))->Prop):Prop:=
 (bif(!n_0.up)then(K (n_0,([]:List Outp)))else(bif(n_0.state==0)then(K (n_0,([]:List Outp)))else(f0 b_1 n_0.session fun r1=>(bif(r1.2==16)then(K (n_0,([]:List Outp)))else(bif(r1.2 != 0)then(K (n_0,([(⟨3,n_0.id,0,0,([]:Str)⟩:Outp)]:List Outp)))else(f1 n_0 r1.1 fun r2=>(bif(!r2)then(K (n_0,([(⟨3,n_0.id,0,0,([]:Str)⟩:Outp)]:List Outp)))else(bif(r1.1.kind==1)then(f2 n_0 r1.1.hello fun r3=>(K (r3.1,r3.2)))else(bif(r1.1.kind==2)then(f3 n_0 r1.1.block r1.1.data fun r4=>(K (r4.1,r4.2)))else(bif(r1.1.kind==3)then(f4 n_0 r1.1.block fun r5=>(K (r5.1,r5.2)))else(bif(r1.1.kind==4)then(f5 n_0 r1.1.block fun r6=>(K (r6.1,r6.2)))else(bif(r1.1.kind==5)then(f6 n_0 r1.1.block fun r7=>(K (r7.1,r7.2)))else(bif(r1.1.kind==6)then(f7 n_0 r1.1.block r1.1.data fun r8=>(K (r8.1,r8.2)))else(bif(r1.1.kind==7)then(f8 n_0 r1.1.block fun r9=>(K (r9.1,r9.2)))else(bif(r1.1.kind==8)then(f9 n_0 fun r10=>(K (r10.1,r10.2)))else(bif(r1.1.kind==9)then(f10 n_0 fun r11=>(K (r11,([]:List Outp))))else(f11 n_0 r1.1.kind fun r12=>(K (r12.1,r12.2)))))))))))))))))))
def F (n_0:Node) (b_1:Str) (K:(Node×(List Outp))->Prop):Prop:=FV q154.F q155.F q171.F q172.F q176.F q177.F q178.F q179.F q180.F q181.F q182.F q183.F n_0 b_1 K
def en:Entry:=mkEntry A C fun x=>F x.1 x.2.1
theorem eqv (f0:q154.T) (f1:q155.T) (f2:q171.T) (f3:q172.T) (f4:q176.T) (f5:q177.T) (f6:q178.T) (f7:q179.T) (f8:q180.T) (f9:q181.T) (f10:q182.T) (f11:q183.T) (n_0:Node) (b_1:Str) (K:(Node×(List Outp))->Prop):apure E (tv f0 f1 f2 f3 f4 f5 f6 f7 f8 f9 f10 f11) (fun _=>none) 4 170 [enc (.st 13) n_0,enc .str b_1] (ansK C K)=FV f0 f1 f2 f3 f4 f5 f6 f7 f8 f9 f10 f11 n_0 b_1 K:=by kernel_rfl
theorem loops:LoopsOk E tab (fun _=>none) 4 170:=lpn _ _ _ _
theorem det (n_0:Node) (b_1:Str):Det (F n_0 b_1):=by
 unfold F FV
 repeat' with_reducible first|exact det_ret _|refine det_cond _ ?_ ?_|refine det_bind (q154.det _ _) (fun _=>?_)|refine det_bind (q155.det _ _) (fun _=>?_)|refine det_bind (q171.det _ _) (fun _=>?_)|refine det_bind (q172.det _ _ _) (fun _=>?_)|refine det_bind (q176.det _ _) (fun _=>?_)|refine det_bind (q177.det _ _) (fun _=>?_)|refine det_bind (q178.det _ _) (fun _=>?_)|refine det_bind (q179.det _ _ _) (fun _=>?_)|refine det_bind (q180.det _ _) (fun _=>?_)|refine det_bind (q181.det _) (fun _=>?_)|refine det_bind (q182.det _) (fun _=>?_)|refine det_bind (q183.det _ _) (fun _=>?_)
theorem edet a:Det (en a):=mkD (fun x:Dens A=>det x.1 x.2.1) a
theorem ground:Ground E tab:=gnd (tbc q154.sound (tbc q155.sound (tbc q171.sound (tbc q172.sound (tbc q176.sound (tbc q177.sound (tbc q178.sound (tbc q179.sound (tbc q180.sound (tbc q181.sound (tbc q182.sound (tbc q183.sound (tab_nil _))))))))))))) (dtc q154.edet (dtc q155.edet (dtc q171.edet (dtc q172.edet (dtc q176.edet (dtc q177.edet (dtc q178.edet (dtc q179.edet (dtc q180.edet (dtc q181.edet (dtc q182.edet (dtc q183.edet dtn))))))))))))
theorem sound:EntrySound E 170 en:=mkSound ground loops (by kernel_rfl) (fun x K=>eqv q154.F q155.F q171.F q172.F q176.F q177.F q178.F q179.F q180.F q181.F q182.F q183.F x.1 x.2.1 K)
end q184
namespace q185
abbrev A:List Ty:=[(.st 1),(.int .i64)]
abbrev C:=(cTy (.st 1))
abbrev T:Type:=Disk->Int->(Disk->Prop)->Prop
def tab:Tab:=[]
def F (d:Disk) (n_1:Int) (K:Disk->Prop):Prop:=
 (K (⟨d.sure,d.cache,(maxI2 n_1 0),d.dead⟩:Disk))
def en:Entry:=mkEntry A C fun x=>F x.1 x.2.1
theorem eqv (d:Disk) (n_1:Int) (K:Disk->Prop):apure E tab (fun _=>none) 4 33 [enc (.st 1) d,enc (.int .i64) n_1] (ansK C K)=F d n_1 K:=by kernel_rfl
theorem loops:LoopsOk E tab (fun _=>none) 4 33:=lpn _ _ _ _
theorem det (d:Disk) (n_1:Int):Det (F d n_1):=by
 unfold F
 repeat' with_reducible first|exact det_ret _
theorem edet a:Det (en a):=mkD (fun x:Dens A=>det x.1 x.2.1) a
theorem ground:Ground E tab:=gnd (tab_nil _) dtn
theorem sound:EntrySound E 33 en:=mkSound ground loops (by kernel_rfl) (fun x K=>eqv  x.1 x.2.1 K)
end q185
end Gm
end
