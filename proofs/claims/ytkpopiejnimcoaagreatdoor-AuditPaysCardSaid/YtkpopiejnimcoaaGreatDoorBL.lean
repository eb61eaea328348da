import Derived.Test.YtkpopiejnimcoaaGreatDoorBG
import Derived.Test.YtkpopiejnimcoaaGreatDoorBH
import Derived.Test.YtkpopiejnimcoaaGreatDoorBI
import Derived.Test.YtkpopiejnimcoaaGreatDoorBJ
import Derived.Test.YtkpopiejnimcoaaGreatDoorBK
set_option linter.all false
set_option maxRecDepth 100000
set_option maxHeartbeats 4000000
namespace Go.Proofs
open Go.Shelf
def Tryz.HH:Go.Shelf.Ren:=⟨λ|171=>48|243=>73|246=>118|283=>153|284=>154|285=>155|286=>156|129=>95|317=>208|318=>209|319=>210|320=>211|337=>245|338=>246|n=>n,λ|3=>3|9=>9|2=>2|4=>4|171=>305|0=>0|53=>225|37=>69|5=>5|173=>307|212=>372|51=>223|20=>20|213=>373|46=>156|232=>428|233=>429|n=>n,λ|17=>1|18=>2|19=>3|n=>n⟩
def Tryz.Vu:Go.Proofs.LaysM.n171 Tryz.prog Tryz.HH:={
 mixed:=ag
 f129:=Tryz.func95.trans (congrArg some ag)
 f171:=Tryz.func48.trans (congrArg some ag)
 f243:=Tryz.func73.trans (congrArg some ag)
 f246:=Tryz.func118.trans (congrArg some ag)
 f283:=Tryz.func153.trans (congrArg some ag)
 f284:=Tryz.func154.trans (congrArg some ag)
 f285:=Tryz.func155.trans (congrArg some ag)
 f286:=Tryz.func156.trans (congrArg some ag)
 f317:=Tryz.func208.trans (congrArg some ag)
 f318:=Tryz.func209.trans (congrArg some ag)
 f319:=Tryz.func210.trans (congrArg some ag)
 f320:=Tryz.func211.trans (congrArg some ag)
 f337:=Tryz.func245.trans (congrArg some ag)
 f338:=Tryz.func246.trans (congrArg some ag)
 t0:=Tryz.underlying0
 a0:=Tryz.isAgg0
 z0:=Tryz.sizeOf0
 v0:=Tryz.zeroValue0
 t2:=Tryz.underlying2
 a2:=Tryz.isAgg2
 z2:=Tryz.sizeOf2
 v2:=Tryz.zeroValue2
 t3:=Tryz.underlying3
 a3:=Tryz.isAgg3
 z3:=Tryz.sizeOf3
 v3:=Tryz.zeroValue3
 t4:=Tryz.underlying4
 a4:=Tryz.isAgg4
 z4:=Tryz.sizeOf4
 v4:=Tryz.zeroValue4
 t5:=Tryz.underlying5
 a5:=Tryz.isAgg5
 z5:=Tryz.sizeOf5
 v5:=Tryz.zeroValue5
 t9:=Tryz.underlying9
 a9:=Tryz.isAgg9
 z9:=Tryz.sizeOf9
 v9:=Tryz.zeroValue9
 t20:=Tryz.underlying20
 a20:=Tryz.isAgg20
 z20:=Tryz.sizeOf20
 v20:=Tryz.zeroValue20
 t37:=Tryz.underlying69
 a37:=Tryz.isAgg69
 z37:=Tryz.sizeOf69
 v37:=Tryz.zeroValue69
 t46:=Tryz.underlying156
 a46:=Tryz.isAgg156
 z46:=Tryz.sizeOf156
 v46:=Tryz.zeroValue156
 t51:=Tryz.underlying223
 a51:=Tryz.isAgg223
 z51:=Tryz.sizeOf223
 v51:=Tryz.zeroValue223
 t53:=Tryz.underlying225
 a53:=Tryz.isAgg225
 z53:=Tryz.sizeOf225
 v53:=Tryz.zeroValue225
 t171:=Tryz.underlying305
 a171:=Tryz.isAgg305
 z171:=Tryz.sizeOf305
 v171:=Tryz.zeroValue305
 t173:=Tryz.underlying307
 a173:=Tryz.isAgg307
 z173:=Tryz.sizeOf307
 v173:=Tryz.zeroValue307
 t212:=Tryz.underlying372
 a212:=Tryz.isAgg372
 z212:=Tryz.sizeOf372
 v212:=Tryz.zeroValue372
 t213:=Tryz.underlying373
 a213:=Tryz.isAgg373
 z213:=Tryz.sizeOf373
 t232:=Tryz.underlying428
 a232:=Tryz.isAgg428
 z232:=Tryz.sizeOf428
 v232:=Tryz.zeroValue428
 t233:=Tryz.underlying429
 a233:=Tryz.isAgg429
 z233:=Tryz.sizeOf429
 v233:=Tryz.zeroValue429
 g17:=ag
 g18:=ag
 g19:=ag
 i0:=ag
 i2:=ag
 i3:=ag
 i4:=ag
 i5:=ag
 i9:=ag
 i20:=ag
 i37:=ag
 i46:=ag
 i51:=ag
 i53:=ag
 i171:=ag
 i173:=ag
 i212:=ag
 i232:=ag
 i233:=ag
 m17:=ag
 m18:=ag
 m19:=by kernel_rfl}
end Go.Proofs
namespace Go.aW.Cd
open Go Go.Proofs
def WU{M:agt}(w:World)(k:Nat)(J:Array Obj):dA M w (Go.Sort.grow (w.drewN k) J):=by
 have G:∀i,i < w.heap.size->(Go.Sort.grow (w.drewN k) J).heap[i]? =w.heap[i]? :=λi I=>by
  rw[Go.Sort.heap_grow_old (w.drewN k) J (by exact I)];rfl
 refine⟨rfl,rfl,rfl,?_,λi I _=>G i I,λi I=>by simp only[World.shape?,G i I]⟩;show w.heap.size<=(w.heap++J).size;simp
def aaY{w:World}{A:agt}{ρ:Env}{v:Value}{xs:Array Value}(h:DJ w A ρ [.one (.t (.val v))] xs.toList):xs= #[v]:=by
 obtain⟨U,N⟩:=h;have O:xs.toList.length=1:=by rw[<-U];rfl
 obtain⟨y,G⟩:=acf.1 O;have:=N 0 _ y rfl (by rw[G];rfl);cases this.1;rw[<-aan (xs:=xs),G]
def O6(n:Int)(z: -9223372036854775808<=n)(O:n<=9223372036854775807):
 Fn Tryz.prog 48 [.one (.t (.val (.int .i64 n)))] [] (.w (.one (.t (.val (.string ⟨(Lib.itoa n).toArray⟩))))) []:=by
 intro w A ρ o F R;obtain rfl:=aaY R;obtain⟨g1,g2,P,⟨t,s,d⟩,a⟩:=F.dR 1 _ rfl
 have D:=Any.strconv_Itoa Tryz.Vu n z O w (by
  show World.var? _ _ _=_;unfold World.var?;rw[show Tryz.prog.globalNamed _=some 1 by kernel_rfl];simp only[Tf,d];rfl)
 have r:Calls Tryz.prog 48 #[.int .i64 n] w λe j=>e= .returned (.string ⟨(Lib.itoa n).toArray⟩)/\ ∃k J,j=Go.Sort.grow (w.drewN k) J:=D;refine r.mono ?_;rintro e j ⟨rfl,k,J,rfl⟩;have H:=WU (M:=λb=>pK ρ [] b\/w.heap.size<=b) w k J;exact⟨_,A,ρ,bJ 4,rfl,⟨.val rfl,rfl⟩,⟨rfl,rfl,λt v l=>by simp[find]at l,λid b G=>by simp[find]at G,λid S b K c G=>by simp[find]at G,F.fresh,λb G=>aar (F.bound b G) H.size,λb G=> .inr (aal H.size G),F.dR.LN H (λ_ _ h=>h)⟩,H,jm.refl _,bY.refl _ _⟩
def z48:=bN Tryz.func48 true false
def aDQ:List (Nat×Gk):=[(48,z48.1),(299,axS.1),(32,z32.1),(235,azH.1),(268,ayO.1),(298,axT.1),(277,ayI.1),(270,ayM.1),(222,z222.1),(224,azL.1),(278,ayH.1),(260,ayR.1),(236,z236.1),(301,axQ.1),(309,axK.1),(279,ayG.1),(271,ayL.1),(218,z218.1),(285,ayA.1),(171,z171.1),(316,axH.1),(297,axU.1),(62,z62.1),(203,z203.1),(164,z164.1),(256,ayV.1),(220,azO.1),(190,aAb.1),(189,aAc.1),(173,z173.1),(166,aAm.1),(141,z141.1),(296,axV.1),(234,z234.1),(253,ayY.1),(103,aAO.1),(304,axN.1),(276,ayJ.1),(144,aAu.1),(303,axO.1),(295,axW.1),(282,ayD.1),(201,z201.1),(148,z148.1),(300,axR.1),(286,axZ.1),(188,aAd.1),(140,aAw.1),(308,axL.1),(290,axX.1),(289,axY.1),(264,ayQ.1),(257,ayU.1),(255,ayW.1),(244,azD.1),(241,azF.1),(237,azG.1),(229,z229.1),(223,azM.1),(221,azN.1),(219,azP.1),(216,azR.1),(215,azS.1),(207,azU.1),(202,azX.1),(191,aAa.1),(181,aAh.1),(172,aAj.1),(167,z167.1),(69,z69.1),(310,axJ.1),(281,ayE.1),(280,ayF.1),(249,azB.1),(124,z124.1),(315,axI.1),(302,axP.1),(258,ayT.1),(174,aAi.1),(169,aAl.1),(165,aAn.1),(115,aAG.1),(113,aAI.1),(74,z74.1),(305,axM.1),(65,z65.1),(49,z49.1),(34,z34.1),(13,z13.1),(225,azK.1),(217,azQ.1),(206,z206.1),(175,z175.1),(170,aAk.1),(152,z152.1),(142,aAv.1),(114,aAH.1),(99,z99.1),(70,z70.1),(61,z61.1),(55,z55.1),(43,z43.1),(40,z40.1),(157,z157.1),(125,aAC.1),(105,z105.1),(58,z58.1),(57,z57.1),(50,z50.1),(39,z39.1),(38,z38.1),(22,z22.1),(272,ayK.1),(267,ayP.1),(259,ayS.1),(254,ayX.1),(252,ayZ.1),(250,azA.1),(247,azC.1),(243,azE.1),(230,azJ.1),(213,z213.1),(212,z212.1),(205,azV.1),(204,azW.1),(200,azY.1),(192,azZ.1),(185,aAf.1),(184,aAg.1),(183,z183.1),(168,z168.1),(163,aAo.1),(162,z162.1),(159,z159.1),(158,aAq.1),(150,aAr.1),(149,aAs.1),(147,aAt.1),(143,z143.1),(139,z139.1),(137,aAx.1),(126,aAB.1),(119,z119.1),(111,aAJ.1),(110,aAK.1),(108,aAL.1),(104,aAN.1),(102,aAP.1),(95,z95.1),(86,z86.1),(85,z85.1),(84,z84.1),(83,z83.1),(82,z82.1),(77,z77.1),(76,z76.1),(67,z67.1),(64,z64.1),(60,z60.1),(59,z59.1),(56,z56.1),(53,z53.1),(52,z52.1),(51,z51.1),(33,z33.1),(29,z29.1),(28,z28.1),(27,z27.1),(26,z26.1),(25,z25.1),(24,z24.1),(23,z23.1),(21,z21.1),(19,z19.1),(17,z17.1),(14,z14.1),(11,z11.1),(284,ayB.1),(283,ayC.1),(269,ayN.1),(233,z233.1),(231,azI.1),(214,azT.1),(187,aAe.1),(182,z182.1),(161,aAp.1),(160,z160.1),(146,z146.1),(145,z145.1),(138,z138.1),(136,aAy.1),(135,aAz.1),(134,aAA.1),(123,aAD.1),(122,aAE.1),(120,aAF.1),(117,z117.1),(107,z107.1),(106,aAM.1),(101,aAQ.1),(100,aAR.1),(98,z98.1),(97,z97.1),(96,z96.1),(81,z81.1),(80,z80.1),(79,z79.1),(78,z78.1),(75,z75.1),(72,z72.1),(71,z71.1),(68,z68.1),(66,z66.1),(63,z63.1),(47,z47.1),(46,z46.1),(45,z45.1),(44,z44.1),(41,z41.1),(20,z20.1),(10,z10.1)]
abbrev EB:Nat->Option Gk:=find aDQ
def arS:QU Tryz.prog EB:=KH (show YG Tryz.prog aDQ from⟨z48.2,axS.2,z32.2,azH.2,ayO.2,axT.2,ayI.2,ayM.2,z222.2,azL.2,ayH.2,ayR.2,z236.2,axQ.2,axK.2,ayG.2,ayL.2,z218.2,ayA.2,z171.2,axH.2,axU.2,z62.2,z203.2,z164.2,ayV.2,azO.2,aAb.2,aAc.2,z173.2,aAm.2,z141.2,axV.2,z234.2,ayY.2,aAO.2,axN.2,ayJ.2,aAu.2,axO.2,axW.2,ayD.2,z201.2,z148.2,axR.2,axZ.2,aAd.2,aAw.2,axL.2,axX.2,axY.2,ayQ.2,ayU.2,ayW.2,azD.2,azF.2,azG.2,z229.2,azM.2,azN.2,azP.2,azR.2,azS.2,azU.2,azX.2,aAa.2,aAh.2,aAj.2,z167.2,z69.2,axJ.2,ayE.2,ayF.2,azB.2,z124.2,axI.2,axP.2,ayT.2,aAi.2,aAl.2,aAn.2,aAG.2,aAI.2,z74.2,axM.2,z65.2,z49.2,z34.2,z13.2,azK.2,azQ.2,z206.2,z175.2,aAk.2,z152.2,aAv.2,aAH.2,z99.2,z70.2,z61.2,z55.2,z43.2,z40.2,z157.2,aAC.2,z105.2,z58.2,z57.2,z50.2,z39.2,z38.2,z22.2,ayK.2,ayP.2,ayS.2,ayX.2,ayZ.2,azA.2,azC.2,azE.2,azJ.2,z213.2,z212.2,azV.2,azW.2,azY.2,azZ.2,aAf.2,aAg.2,z183.2,z168.2,aAo.2,z162.2,z159.2,aAq.2,aAr.2,aAs.2,aAt.2,z143.2,z139.2,aAx.2,aAB.2,z119.2,aAJ.2,aAK.2,aAL.2,aAN.2,aAP.2,z95.2,z86.2,z85.2,z84.2,z83.2,z82.2,z77.2,z76.2,z67.2,z64.2,z60.2,z59.2,z56.2,z53.2,z52.2,z51.2,z33.2,z29.2,z28.2,z27.2,z26.2,z25.2,z24.2,z23.2,z21.2,z19.2,z17.2,z14.2,z11.2,ayB.2,ayC.2,ayN.2,z233.2,azI.2,azT.2,aAe.2,z182.2,aAp.2,z160.2,z146.2,z145.2,z138.2,aAy.2,aAz.2,aAA.2,aAD.2,aAE.2,aAF.2,z117.2,z107.2,aAM.2,aAQ.2,aAR.2,z98.2,z97.2,z96.2,z81.2,z80.2,z79.2,z78.2,z75.2,z72.2,z71.2,z68.2,z66.2,z63.2,z47.2,z46.2,z45.2,z44.2,z41.2,z20.2,z10.2,trivial⟩)
abbrev Tbl:={l:List (Nat×Lw×V) // Gh Tryz.prog (sw l)}
def tz:Tbl:=⟨[],aaD⟩
def Uf{l:Tbl}{f:Nat}{fr:Gk}{a:Lw}{v:V}(h:EB f=some fr)(hE:qE false Tryz.prog (cQ false Tryz.prog EB (sw l.1) 10000 60).1 (cQ false Tryz.prog EB (sw l.1) 10000 60).2 10000 fr a (λS=>eqV S v)=true):Fn Tryz.prog f a [] v []/\v.cR=true:=aeK (fuel:=10000) (d:=60) arS l.2 h hE
def jr(l:Tbl)(f:Nat)(a:Lw)(v:V){fr:Gk}(h:EB f=some fr:=by rfl)(hE:qE false Tryz.prog (cQ false Tryz.prog EB (sw l.1) 10000 60).1 (cQ false Tryz.prog EB (sw l.1) 10000 60).2 10000 fr a (λS=>eqV S v)=true:=by kernel_rfl):Tbl:=⟨(f,a,v)::l.1,B9 l.2 (Uf h hE)⟩
def q1:W:= .agg [.t (.val (.string ⟨#[115,104,105,114,116]⟩)),.t (.aO 1 [[.val (.string ⟨#[83]⟩)],[.val (.string ⟨#[77]⟩)]]),.t (.aO 1 [[i 0],[i 2]]),.t (.aO 7 [[.val (.string ⟨#[102,114,111,110,116]⟩),.aO 2 [[.val (.string ⟨#[108,111,119]⟩),.aO 2 [[i 0,i 0],[i 10,i 0]]],[.val (.string ⟨#[114,105,103,104,116]⟩),.aO 2 [[i 10,i 0],[i 10,i 10]]],[.val (.string ⟨#[104,105,103,104]⟩),.aO 2 [[i 10,i 10],[i 0,i 10]]],[.val (.string ⟨#[108,101,102,116]⟩),.aO 2 [[i 0,i 10],[i 0,i 0]]]],i 1,nl,.aO 2 [[i 0,i 0],[i 1,i 0],[i 1,i 0],[i 0,i 0]],.aO 1 [[i 0],[i 0],[i 0],[i 0]],bo false]]),.t (.aO 3 [[i 0,i 2,bo true]]),.t nl,.t (.aO 5 [[.val (.string ⟨#[106,111,105,110]⟩),i 0,i 100,nl,.aO 1 [[i 0]]]])]
def q2:T:= .aO 1 [[u 1]]
def q3:T:= .aO 2 [[.val (.string ⟨#[108,111,119]⟩),.aO 2 [[i 0,i 0],[i 10,i 0]]],[.val (.string ⟨#[114,105,103,104,116]⟩),.aO 2 [[i 10,i 0],[i 10,i 10]]],[.val (.string ⟨#[104,105,103,104]⟩),.aO 2 [[i 10,i 10],[i 0,i 10]]],[.val (.string ⟨#[108,101,102,116]⟩),.aO 2 [[i 0,i 10],[i 0,i 0]]]]
def q4:W:= .agg [.t (bo false),.t (.aO 1 []),.t q2]
def q5:W:= .agg [.t (bo false),.t (.aO 1 [[u 10]]),.t q2]
def q6:W:= .agg [.t (bo false),.t (.aO 1 []),.t q2,.t (bo false),.t (.aO 1 [[u 10]]),.t q2]
def q7:W:= .agg [.t (bo false),.t (.aO 1 []),.t q2,.t (bo false),.t (.aO 1 []),.t q2]
def q8:T:= .aO 7 [[i 0,i 0,i 0,bo false,i 0,i 0,i 0],[i 0,i 0,i 1,bo true,i 0,i 20,i 0]]
def q9:T:= .aO 2 [[i 0,i 0],[i 10,i 0],[i 10,i 10],[i 0,i 10]]
def q10:T:= .aO 1 [[u 10]]
def q11:T:= .aO 2 [[i 0,.aO 4 [[i 0,i 0,i 20,i 0]]],[i 1,.aO 4 [[i 1,i 0,i 20,i 0]]]]
def q12:T:= .aO 7 [[.val (.string ⟨#[65]⟩),i 10,i 30,i 0,i 0,i 0,nl],[.val (.string ⟨#[66]⟩),i 10,i 30,i 0,i 0,i 0,nl]]
def q13:W:= .agg [.t (bo false),.t (.aO 1 [[u 120]]),.t q2]
def q14:W:= .agg [.t (bo false),.t (.aO 1 [[u 100]]),.t q2]
def q15:W:= .agg [.t (bo false),.t (.aO 1 [[u 12]]),.t q2,.t (bo false),.t (.aO 1 []),.t q2]
def To:T:= .aO 1 [[i 0]]
def q17:W:= .agg [.t (bo false),.t q10,.t q2,.t (bo false),.t (.aO 1 []),.t q2]
def q18:T:= .aO 6 [[i 1,i 0,i 0,i 0,i 0,i 1],[i 2,i 0,i 0,i 1,i 1,i 2]]
def q19:T:= .aO 2 [[i 20,i 10],[i 10,i 10],[i 10,i 0],[i 20,i 0]]
def q20:W:= .agg [.t (bo true),.t q10,.t q2]
def q21:T:= .aO 1 [[u 12]]
def q22:T:= .aO 5 [[i 1,i 0,i 0,i 0,.aO 1 [[i 0],[i 1]]],[i 2,i 1,i 0,i 1,.aO 1 [[i 2],[i 3]]]]
def q23:W:= .agg [.t (i 20),.t (i 10),.t (i 0),.t (i 0),.t To,.t q8,.t q11]
def q24:W:= .agg [.t (bo false),.t q21,.t q2,.t (bo false),.t q10,.t q2]
def q25:W:= .agg [.t (bo false),.t q2,.t q2]
def q26:W:= .agg [.t (bo false),.t q10,.t q2,.t (bo false),.t q10,.t q2]
def q27:T:= .aO 1 [[i 0],[i 0],[i 0],[i 0]]
def q28:T:= .aO 2 [[i 0,i 0],[i 1,i 0],[i 1,i 0],[i 0,i 0]]
def q29:T:= .aO 2 [[.val (.string ⟨#[97,110,110]⟩),To]]
def q30:W:= .agg [.t (bo false),.t q21,.t q2]
def tb1:=jr tz 249 [.agg [.t (bo false),.t nl,.t nl],.agg [.t (bo false),.t nl,.t nl]] (.w (.one (.t (i 0))))
def tb2:=jr tb1 103 [.one (.t q9)] (.w (.one (.t (i 0))))
def tb3:=jr tb2 165 [.one (.t q3)] (.w (.one (.t (i 0))))
def tb4:=jr tb3 124 [.agg [.t (.val (.string ⟨#[102,114,111,110,116]⟩)),.t q3,.t (i 1),.t nl,.t q28,.t q27,.t (bo false)],.one (.t (i 0))] (.fB [.one (.t q3),.one (.t (i 0))])
def tb5:=jr tb4 74 [q1] (.w (.one (.t (i 0))))
def tb6:=jr tb5 49 [q1] (.w (.one (.t (i 0))))
def tb7:=jr tb6 301 [.one (.t q2),.one (.t q2)] (.fB [.one (.t q2),.one (.t (.aO 1 [])),.one (.t (bo true))])
def tb8:=jr tb7 278 [.agg [.t (bo false),.t (.aO 1 [])],.one (.t q2)] (.w q4)
def tb9:=jr tb8 278 [.agg [.t (bo false),.t q10],.one (.t q2)] (.w q5)
def aHZ:=jr tb9 282 [.one (.t (i 10)),.one (.t (i 1))] (.fB [q5,.one (.t (bo true))])
def aHY:=jr aHZ 222 [.agg [.t (i 0),.t (i 10)]] (.w q6)
def aHX:=jr aHY 222 [.agg [.t (i 0),.t (i 0)]] (.w q7)
def aHW:=jr aHX 222 [.agg [.t (i 10),.t (i 0)]] (.w q17)
def aHV:=jr aHW 268 [q4] (.w q4)
def aHU:=jr aHV 286 [q4] (.w q4)
def aHT:=jr aHU 268 [q5] (.w q5)
def aHS:=jr aHT 270 [.agg [.t (bo false),.t (.aO 1 [])],.agg [.t (bo false),.t q2]] (.w (.agg [.t (bo false),.t (.aO 1 [])]))
def aHR:=jr aHS 277 [.one (.t q2),.one (.t q2)] (.w (.one (.t q2)))
def aHQ:=jr aHR 285 [q5,q4] (.w q5)
def aHP:=jr aHQ 285 [q4,q4] (.w q4)
def aHO:=jr aHP 260 [q4,q4] (.w q4)
def aHN:=jr aHO 224 [q17,q7] (.w q17)
def aHM:=jr aHN 278 [.agg [.t (bo true),.t q10],.one (.t q2)] (.w q20)
def aHL:=jr aHM 268 [q20] (.w q20)
def aHK:=jr aHL 260 [q4,q5] (.w q20)
def aHJ:=jr aHK 224 [q7,q6] (.w (.agg [.t (bo false),.t (.aO 1 []),.t q2,.t (bo true),.t q10,.t q2]))
def aHI:=jr aHJ 279 [q4,q4] (.w q4)
def aHH:=jr aHI 278 [.agg [.t (bo true),.t (.aO 1 [[u 100]])],.one (.t q2)] (.w (.agg [.t (bo true),.t (.aO 1 [[u 100]]),.t q2]))
def aHG:=jr aHH 278 [.agg [.t (bo false),.t (.aO 1 [[u 100]])],.one (.t q2)] (.w q14)
def aHF:=jr aHG 260 [q4,.agg [.t (bo true),.t (.aO 1 [[u 100]]),.t q2]] (.w q14)
def aHE:=jr aHF 255 [q14,q14] (.fB [q25,.one (.t (bo true))])
def aHD:=jr aHE 279 [q4,q25] (.w q4)
def aHC:=jr aHD 285 [q5,q20] (.w q4)
def aHB:=jr aHC 257 [q6,q7,q25] (.w q7)
def aHA:=jr aHB 223 [q7] (.fB [.agg [.t (i 0),.t (i 0)],.one (.t (i 0))])
def aHz:=jr aHA 222 [.agg [.t (i 10),.t (i 10)]] (.w q26)
def aHy:=jr aHz 260 [q5,q5] (.w q4)
def aHx:=jr aHy 224 [q26,q17] (.w q6)
def aHw:=jr aHx 260 [q14,q4] (.w q14)
def aHv:=jr aHw 285 [q4,q5] (.w q5)
def aHu:=jr aHv 224 [q6,q26] (.w (.agg [.t (bo true),.t q10,.t q2,.t (bo false),.t (.aO 1 []),.t q2]))
def aHt:=jr aHu 125 [.one (.t q3),.one (.t q27)] (.fB [.one (.t q9),.one (.t (i 0))])
def aHs:=jr aHt 183 [q1,.one (.t (i 0)),.one (.t (i 0))] (.fB [.one (.t q9),.one (.t (i 0))])
def aHr:=jr aHs 103 [.one (.t q19)] (.w (.one (.t (i 0))))
def aHq:=jr aHr 65 [.one (.t (.aO 5 [[q9,i 1,bo false,i 0,i 0],[.aO 2 [[i 0,i 10],[i (-10),i 10],[i (-10),i 0],[i 0,i 0]],i 1,bo false,i 0,i 0]])),.agg [.t (i 1),.t (bo false),.t (i 0),.t (i 20),.t (i 0)]] (.fB [.one (.t q19),.one (.t (i 0))])
def aHp:=jr aHq 64 [q1,.agg [.t (i 20),.t (i 10),.t (i 0),.t (i 0),.t To,.t q8]] (.fB [.one (.t (.aO 5 [[q9,i 1,bo false,i 0,i 0],[.aO 2 [[i 0,i 10],[i (-10),i 10],[i (-10),i 0],[i 0,i 0]],i 1,bo false,i 0,i 0]])),.one (.t (.aO 5 [[i 0,bo false,i 0,i 0,i 0],[i 1,bo false,i 0,i 20,i 0]])),.one (.t (i 0))])
def aHo:=jr aHp 38 [q1,.agg [.t (i 20),.t (i 10),.t (i 0),.t (i 0),.t To,.t q8]] (.fB [.one (.t (.aO 1 [[q9],[q19]])),.one (.t (i 0))])
def aHn:=jr aHo 39 [q23,.one (.t (.aO 1 [[q9],[q19]])),.one (.t q12),.one (.t (.aO 1 [[i 0],[i 1]]))] (.w (.one (.t (i 0))))
def aHm:=jr aHn 34 [q1,.one (.t q18),.one (.t q29),.one (.t (.aO 4 [[i 1,i 0,i 0,i 5]]))] (.fB [.one (.t (.aO 1 [[i 1]])),.one (.t (i 0))])
def aHl:=jr aHm 17 [q1,q23,.one (.t q12),.one (.t (.aO 1 [[i 0],[i 1]]))] (.fB [.one (.t (.aO 6 [[i 0,i 0,i 0,i 0,To,bo false],[i 0,i 1,i 0,i 0,To,bo false],[i 1,i 0,i 1,i 0,.aO 1 [[i 1]],bo false],[i 1,i 1,i 1,i 0,.aO 1 [[i 1]],bo false]])),.one (.t (i 0))])
def aHk:=jr aHl 103 [.one (.t (.aO 2 [[i 0,i 0],[i 12,i 0],[i 12,i 10],[i 0,i 10]]))] (.w (.one (.t (i 0))))
def aHj:=jr aHk 165 [.one (.t (.aO 2 [[.val (.string ⟨#[108,111,119]⟩),.aO 2 [[i 0,i 0],[i 12,i 0]]],[.val (.string ⟨#[114,105,103,104,116]⟩),.aO 2 [[i 12,i 0],[i 12,i 10]]],[.val (.string ⟨#[104,105,103,104]⟩),.aO 2 [[i 12,i 10],[i 0,i 10]]],[.val (.string ⟨#[108,101,102,116]⟩),.aO 2 [[i 0,i 10],[i 0,i 0]]]]))] (.w (.one (.t (i 0))))
def aHi:=jr aHj 278 [.agg [.t (bo false),.t q21],.one (.t q2)] (.w q30)
def aHh:=jr aHi 222 [.agg [.t (i 12),.t (i 0)]] (.w q15)
def aHg:=jr aHh 224 [q15,q7] (.w q15)
def aHf:=jr aHg 278 [.agg [.t (bo true),.t (.aO 1 [[u 120]])],.one (.t q2)] (.w (.agg [.t (bo true),.t (.aO 1 [[u 120]]),.t q2]))
def aHe:=jr aHf 278 [.agg [.t (bo false),.t (.aO 1 [[u 120]])],.one (.t q2)] (.w q13)
def aHd:=jr aHe 260 [q4,.agg [.t (bo true),.t (.aO 1 [[u 120]]),.t q2]] (.w q13)
def aHc:=jr aHd 255 [q13,q13] (.fB [q25,.one (.t (bo true))])
def aHb:=jr aHc 222 [.agg [.t (i 12),.t (i 10)]] (.w q24)
def aHa:=jr aHb 278 [.agg [.t (bo true),.t q21],.one (.t q2)] (.w (.agg [.t (bo true),.t q21,.t q2]))
def aG9:=jr aHa 260 [q30,q30] (.w q4)
def aG8:=jr aG9 224 [q24,q15] (.w q6)
def aG7:=jr aG8 260 [q13,q4] (.w q13)
def aG6:=jr aG7 224 [q6,q24] (.w (.agg [.t (bo true),.t q21,.t q2,.t (bo false),.t (.aO 1 []),.t q2]))
def aG5:=jr aG6 51 [q1] (.fB [.one (.t nl),.one (.t (i 0))])
def aG4:=jr aG5 53 [q1,q23,.one (.t q18),.one (.t (.aO 6 [[i 0,i 0,i 0,i 0,To,bo false],[i 0,i 1,i 0,i 0,To,bo false],[i 1,i 0,i 1,i 0,.aO 1 [[i 1]],bo false],[i 1,i 1,i 1,i 0,.aO 1 [[i 1]],bo false]])),.one (.t q22)] (.w (.one (.t (i 0))))
def aG3:=jr aG4 13 [.agg [.t (.val (.string ⟨#[115,104,105,114,116]⟩)),.t (.aO 1 [[.val (.string ⟨#[83]⟩)],[.val (.string ⟨#[77]⟩)]]),.t (.aO 1 [[i 0],[i 2]]),.t (.aO 7 [[.val (.string ⟨#[102,114,111,110,116]⟩),q3,i 1,nl,q28,q27,bo false]]),.t (.aO 3 [[i 0,i 2,bo true]]),.t nl,.t (.aO 5 [[.val (.string ⟨#[106,111,105,110]⟩),i 0,i 100,nl,To]]),.t q12,.t (.aO 1 [[i 0],[i 1]]),.t (i 20),.t (i 10),.t (i 0),.t (i 0),.t To,.t q8,.t q11,.t q18,.t q22,.t q29,.t (.aO 4 [[i 1,i 0,i 0,i 5]]),.t (i 1000),.t (i 50),.t (.aO 3 [[i 0,i 10,i 40]])]] (.w (.one (.t nl)))
def aBb:=jr aG3 13 [.agg [.t (.val (.string ⟨#[115,104,105,114,116]⟩)),.t (.aO 1 [[.val (.string ⟨#[83]⟩)],[.val (.string ⟨#[77]⟩)]]),.t (.aO 1 [[i 0],[i 2]]),.t (.aO 7 [[.val (.string ⟨#[102,114,111,110,116]⟩),q3,i 1,nl,q28,q27,bo false]]),.t (.aO 3 [[i 0,i 2,bo true]]),.t nl,.t (.aO 5 [[.val (.string ⟨#[106,111,105,110]⟩),i 0,i 100,nl,To]]),.t q12,.t (.aO 1 [[i 0],[i 1]]),.t (i 20),.t (i 10),.t (i 0),.t (i 0),.t To,.t q8,.t q11,.t q18,.t q22,.t q29,.t (.aO 4 [[i 1,i 0,i 0,i 5]]),.t (i 1000),.t (i 50),.t nl]] (.w (.one (.t (.aO 3 [[i 6,i 0,i (-50)]]))))
noncomputable def ajD:Tbl:=⟨(48,[.one (.t (i 0))],.w (.one (.t (.val (.string ⟨#[48]⟩)))))::aBb.1,B9 aBb.2 ⟨by have h:=O6 0 av av;rw[show Lib.itoa 0=[48] by simp[Lib.itoa,Lib.decDigits]]at h;exact h,rfl⟩⟩
noncomputable def aBa:Tbl:=⟨(48,[.one (.t (i (-50)))],.w (.one (.t (.val (.string ⟨#[45,53,48]⟩)))))::ajD.1,B9 ajD.2 ⟨by have h:=O6 (-50) av av;rw[show Lib.itoa (-50)=[45,53,48] by simp[Lib.itoa,Lib.decDigits]]at h;exact h,rfl⟩⟩
def zJ:Fn Tryz.prog 10 [] [] (.w (.one (.t (bo true)))) []:=(Uf (l:=aBa) (f:=10) (fr:=z10.1) rfl ag).1
end Go.aW.Cd
