import Derived.Test.YtkpopiejnimcoaaGreatDoorBD
import Derived.Shelf.SlSortCmp.NoneTotal
import Derived.Shelf.SlicesG.Cmp
import Derived.Test.YtkpopiejnimcoaaGreatDoorProg
import Derived.Lib.Small
import Derived.Lib.Walk
import Derived.LoopN
import Derived.Deep.RegionHeld3
import GoSem.ClaimChange
set_option linter.all false
set_option maxRecDepth 100000
set_option maxHeartbeats 4000000
namespace Go.aW.Cd
open Go Go.Proofs
variable[kw]
abbrev XU(r l:Int):Prop:=(0<=r/\r<=100000)/\0<=l/\l<=1073741824
def RTf(r l:Int)(m:Nat)(vs:List V):Prop:= ∃i:Nat,i<=2/\m=2 - i/\vs=[iV .i64 (i:Int)]/\(1<=i->0<=r/\r<=100000)/\(2<=i->0<=l/\l<=1073741824)
abbrev oTf(r l:Int):W:= .agg [.t (tI r),.t (tI l)]
def vu(r l:Int):Tg 43 [oTf r l] (oq (λn=>n=0↔XU r l)):=by
 refine aC Tryz.func43 ?_
 repeat' ((conv=>whnf);first|refine aJ (λh=>?_) (λh=>?_)|refine And.intro aa ?_|(apply aV [9,10] [] [10] (RTf r l) 2 [iV .i64 0];(iterate 3 exact ae);exact⟨0,aa,rfl,rfl,λh=>by omega,λh=>by omega⟩;rintro _ _ ⟨i,I,rfl,rfl,O,Y⟩;(have D:i=0\/i=1\/i=2:=by omega);clear I;rcases D with rfl|rfl|rfl)|(refine aI [9,10] [] ?_;(conv=>whnf);first|exact⟨rfl,_,[_],⟨1,aa,rfl,rfl,λh=>⟨aa,aa⟩,λh=>by omega⟩,rfl,rfl,rfl,aa⟩|exact⟨rfl,_,[_],⟨2,aa,rfl,rfl,λh=>O aa,λh=>⟨aa,aa⟩⟩,rfl,rfl,rfl,aa⟩)|refine nA (op:= .index 193 (.tmp 9) (.tmp 10)) (v:=iV .i64 r) rfl ?_|refine nA (op:= .index 193 (.tmp 9) (.tmp 10)) (v:=iV .i64 l) rfl ?_|exact jX rfl rfl (iff_of_false av (λd=>by have B:=d.1;have g:=d.2;omega))|exact jX rfl rfl (iff_of_true rfl ⟨O aa,Y aa⟩))
def Lu(r m c:Int):Int:=(m * c * r+5000).tdiv 10000
abbrev EV(r l m c:Int):Prop:=XU r l/\(0<=m/\m<=10000)/\0<=c/\c<=1000
variable{r l c:Int}
def QC{m:Int}(h:EV r l m c):(0<=m * c/\m * c<=10000000)/\(0<=m * c * r/\m * c * r<=1000000000000)/\0<=Lu r m c/\Lu r m c<=100000001:=by
 obtain⟨⟨⟨L,N⟩,_⟩,⟨I,Q⟩,D,K⟩:=h;have O:0<=m * c:=aeL I D;have Y:m * c<=10000 * 1000:=afj Q K D aa;have B:0<=m * c * r:=aeL O L;have g:m * c * r<=10000000 * 100000:=afj aa N L aa;refine⟨⟨O,aa⟩,⟨B,aa⟩,?_⟩;unfold Lu;generalize m * c * r=x at B g⊢;rw[abH aa];omega
def GAm(r l m c:Int)(ts:Lw):Prop:= ∃n e:Int,ts=[oI n,oI e]/\(e=0↔EV r l m c)/\(e=0->n=Lu r m c)
def arP{m n e:Int}(H:e≠0)(h:¬EV r l m c):GAm r l m c [oI n,oI e]:=⟨n,e,rfl,iff_of_false H h,λz=>absurd z H⟩
def aeD{m:Int}(h:EV r l m c):GAm r l m c [oI (IntKind.i64.wrap ((IntKind.i64.wrap (IntKind.i64.wrap (IntKind.i64.wrap (m * c) * r)+5000)).tdiv 10000)),oI 0]:=by
 obtain⟨O,Y,B⟩:=QC h;refine⟨_,_,rfl,iff_of_true rfl h,λ_=>?_⟩;rw[bF (n:=m * c) aa aa,bF (n:=m * c * r) aa aa,bF (n:=m * c * r+5000) aa aa];exact bF (by unfold Lu at B;omega) (by unfold Lu at B;omega)
def Jj(r l m c:Int):Tg 44 [oTf r l,oI m,oI c] (GAm r l m c):=by
 refine aS ?_;refine aC Tryz.func44 ?_
 repeat' ((conv=>whnf);first|refine bZz (λh=>?_) (λh=>?_)|refine And.intro aa ?_|(refine aD rfl (vu r l) ?_;rintro _ ⟨e,rfl,H⟩)|exact eL rfl (cv rfl) (cv rfl) (arP aa (λh=>by have:=H.2 h.1;omega))|exact eL rfl (cv rfl) (cv rfl) (aeD ⟨H.1 aa,aa,aa⟩))
def MH(a b:Int):Tg 46 [oI a,oI b] (oq (λn=>n=IntKind.i64.wrap (a+b))):=by
 refine aC Tryz.func46 ?_
 repeat' ((conv=>whnf);first|exact jX rfl rfl rfl)
def pN(xs:Lz):Int:=(xs.map (nI 0)).sum
def Q5(xs:Lz)(v:Int):pN (xs++[[tI v]])=pN xs+v:=by simp[pN,nI]
abbrev Ams(xs:Lz):Prop:= ∀e,e∈xs-> ∃v,e=[tI v]/\0<=v/\v<=100000001
def wG:∀ {xs:Lz},Ams xs->0<=pN xs/\pN xs<=100000001 * (xs.length:Int)
 | [],_=>by simp[pN]
 |e::r,h=>by
  obtain⟨O,Y⟩:=wG (xs:=r) (λx N=>h x (aa2 _ N));obtain⟨v,rfl,B,g⟩:=h e aa1;have:pN ([tI v]::r)=v+pN r:=by simp[pN,nI]
  rw[this];simp only[aaa];omega
def RTo(xs:Lz)(m:Nat)(vs:List V):Prop:= ∃i:Nat,i<=xs.length/\m=xs.length - i/\vs=[iV .i64 (pN (xs.take i)),iV .i64 (i:Int)]
def RTo.next{xs:Lz}{i:Nat}{v n:Int}(I:(i:Int) < (xs.length:Int))(U:xs.length<=1000)(w:Ams xs)(S:xs[((i:Int)).toNat]? =some [tI v])(K:n=IntKind.i64.wrap (pN (xs.take i)+v)):RTo xs (xs.length - (i+1)) [iV .i64 n,iV .i64 (IntKind.i64.wrap ((i:Int)+1))]:=by
 have x:xs[i]? =some [tI v]:=aA
 have e:xs.take (i+1)=xs.take i++[[tI v]]:=by rw[abw,x];rfl
 obtain⟨O,Y⟩:=wG (xs:=xs.take (i+1)) (λe H=>w e (aah H));have B:(xs.take (i+1)).length<=xs.length:=by simp;omega
 refine⟨i+1,aa,rfl,?_⟩;rw[K, <-Q5, <-e,bF aa aa,bF aa aa];rfl
def L4(xs:Lz)(w:Ams xs)(U:xs.length<=1000):Tg 45 [fV 46,oL 1 xs] (oq (λn=>n=pN xs)):=by
 refine aC Tryz.func45 ?_
 repeat' ((conv=>whnf);first|refine aJ (λh=>?_) (λh=>?_)|(refine aG (xs:=xs) w aa aa ?_;rintro _ ⟨v,rfl,Z,L⟩ S)|(refine Z2 ag rfl (MH _ _) ?_;rintro _ ⟨n,rfl,K⟩)|exact jX rfl rfl (by rw[aac aa])|(apply aV [0,5,8,9,10] [] [5,10] (RTo xs) (xs.length) [iV .i64 0,iV .i64 0];(iterate 3 exact ae);exact⟨0,aa,rfl,rfl⟩;rintro _ _ ⟨i,I,rfl,rfl⟩)|(refine aI [0,5,8,9,10] [] ?_;(conv=>whnf);exact⟨rfl,_,[_,_],RTo.next aa U w S K,rfl,rfl,rfl,aa⟩))
end Go.aW.Cd
namespace Go.Proofs
open Go.Shelf
def Tryz.Mc:Go.Shelf.Ren:=⟨λ|6=>111|15=>61|14=>147|28=>94|29=>95|20=>192|21=>193|22=>194|23=>195|24=>196|25=>197|26=>198|27=>199|46=>238|47=>130|48=>131|49=>239|50=>240|57=>266|n=>n,λ|22=>253|24=>255|25=>257|3=>3|39=>156|0=>0|53=>223|55=>225|4=>4|46=>216|45=>215|50=>220|5=>5|9=>9|66=>280|70=>284|76=>335|77=>336|n=>n,λ|n=>n⟩
def Tryz.Um:Go.Proofs.SlLaysF0.n6 Tryz.prog Tryz.Mc:={
 mixed:=ag
 f6:=⟨Tryz.f111.name,av,Tryz.func111.trans (congrArg some ag)⟩
 f14:=⟨Tryz.f147.name,av,Tryz.func147.trans (congrArg some ag)⟩
 f15:=Tryz.func61.trans (congrArg some ag)
 f20:=⟨Tryz.f192.name,av,Tryz.func192.trans (congrArg some ag)⟩
 f21:=⟨Tryz.f193.name,av,Tryz.func193.trans (congrArg some ag)⟩
 f22:=⟨Tryz.f194.name,av,Tryz.func194.trans (congrArg some ag)⟩
 f23:=⟨Tryz.f195.name,av,Tryz.func195.trans (congrArg some ag)⟩
 f24:=⟨Tryz.f196.name,av,Tryz.func196.trans (congrArg some ag)⟩
 f25:=⟨Tryz.f197.name,av,Tryz.func197.trans (congrArg some ag)⟩
 f26:=⟨Tryz.f198.name,av,Tryz.func198.trans (congrArg some ag)⟩
 f27:=⟨Tryz.f199.name,av,Tryz.func199.trans (congrArg some ag)⟩
 f28:=Tryz.func94.trans (congrArg some ag)
 f29:=Tryz.func95.trans (congrArg some ag)
 f46:=⟨Tryz.f238.name,av,Tryz.func238.trans (congrArg some ag)⟩
 f47:=Tryz.func130.trans (congrArg some ag)
 f48:=Tryz.func131.trans (congrArg some ag)
 f49:=⟨Tryz.f239.name,av,Tryz.func239.trans (congrArg some ag)⟩
 f50:=⟨Tryz.f240.name,av,Tryz.func240.trans (congrArg some ag)⟩
 f57:=⟨Tryz.f266.name,av,Tryz.func266.trans (congrArg some ag)⟩
 t0:=Tryz.underlying0
 a0:=Tryz.isAgg0
 z0:=Tryz.sizeOf0
 v0:=Tryz.zeroValue0
 t3:=Tryz.underlying3
 a3:=Tryz.isAgg3
 z3:=Tryz.sizeOf3
 v3:=Tryz.zeroValue3
 t4:=Tryz.underlying4
 a4:=Tryz.isAgg4
 z4:=Tryz.sizeOf4
 v4:=Tryz.zeroValue4
 t5:=Tryz.underlying5
 a5:=Tryz.isAgg5
 z5:=Tryz.sizeOf5
 v5:=Tryz.zeroValue5
 t9:=Tryz.underlying9
 a9:=Tryz.isAgg9
 z9:=Tryz.sizeOf9
 v9:=Tryz.zeroValue9
 t22:=Tryz.underlying253
 a22:=Tryz.isAgg253
 z22:=Tryz.sizeOf253
 v22:=Tryz.zeroValue253
 t25:=Tryz.underlying257
 a25:=Tryz.isAgg257
 z25:=Tryz.sizeOf257
 v25:=Tryz.zeroValue257
 t39:=Tryz.underlying156
 a39:=Tryz.isAgg156
 z39:=Tryz.sizeOf156
 v39:=Tryz.zeroValue156
 t45:=Tryz.underlying215
 a45:=Tryz.isAgg215
 z45:=Tryz.sizeOf215
 v45:=Tryz.zeroValue215
 t46:=Tryz.underlying216
 a46:=Tryz.isAgg216
 z46:=Tryz.sizeOf216
 v46:=Tryz.zeroValue216
 t50:=Tryz.underlying220
 a50:=Tryz.isAgg220
 z50:=Tryz.sizeOf220
 v50:=Tryz.zeroValue220
 t53:=Tryz.underlying223
 a53:=Tryz.isAgg223
 z53:=Tryz.sizeOf223
 v53:=Tryz.zeroValue223
 t55:=Tryz.underlying225
 a55:=Tryz.isAgg225
 z55:=Tryz.sizeOf225
 v55:=Tryz.zeroValue225
 t66:=Tryz.underlying280
 a66:=Tryz.isAgg280
 z66:=Tryz.sizeOf280
 v66:=Tryz.zeroValue280
 t70:=Tryz.underlying284
 a70:=Tryz.isAgg284
 z70:=Tryz.sizeOf284
 v70:=Tryz.zeroValue284
 t76:=Tryz.underlying335
 a76:=Tryz.isAgg335
 z76:=Tryz.sizeOf335
 v76:=Tryz.zeroValue335
 t77:=Tryz.underlying336
 a77:=Tryz.isAgg336
 z77:=Tryz.sizeOf336
 v77:=Tryz.zeroValue336}
def Tryz.Me:Go.Shelf.Ren:=⟨λ|6=>29|15=>61|14=>60|28=>94|29=>95|20=>86|21=>87|22=>88|23=>89|24=>90|25=>91|26=>92|27=>93|46=>129|47=>130|48=>131|49=>132|50=>133|57=>180|n=>n,λ|22=>48|24=>53|25=>95|3=>3|39=>156|0=>0|53=>223|55=>225|4=>4|46=>216|45=>215|50=>220|5=>5|9=>9|66=>280|70=>284|76=>335|77=>336|n=>n,λ|n=>n⟩
def Tryz.Uo:Go.Proofs.SlLaysF0.n6 Tryz.prog Tryz.Me:={
 mixed:=ag
 f6:=⟨Tryz.f29.name,av,Tryz.func29.trans (congrArg some ag)⟩
 f14:=⟨Tryz.f60.name,av,Tryz.func60.trans (congrArg some ag)⟩
 f15:=Tryz.func61.trans (congrArg some ag)
 f20:=⟨Tryz.f86.name,av,Tryz.func86.trans (congrArg some ag)⟩
 f21:=⟨Tryz.f87.name,av,Tryz.func87.trans (congrArg some ag)⟩
 f22:=⟨Tryz.f88.name,av,Tryz.func88.trans (congrArg some ag)⟩
 f23:=⟨Tryz.f89.name,av,Tryz.func89.trans (congrArg some ag)⟩
 f24:=⟨Tryz.f90.name,av,Tryz.func90.trans (congrArg some ag)⟩
 f25:=⟨Tryz.f91.name,av,Tryz.func91.trans (congrArg some ag)⟩
 f26:=⟨Tryz.f92.name,av,Tryz.func92.trans (congrArg some ag)⟩
 f27:=⟨Tryz.f93.name,av,Tryz.func93.trans (congrArg some ag)⟩
 f28:=Tryz.func94.trans (congrArg some ag)
 f29:=Tryz.func95.trans (congrArg some ag)
 f46:=⟨Tryz.f129.name,av,Tryz.func129.trans (congrArg some ag)⟩
 f47:=Tryz.func130.trans (congrArg some ag)
 f48:=Tryz.func131.trans (congrArg some ag)
 f49:=⟨Tryz.f132.name,av,Tryz.func132.trans (congrArg some ag)⟩
 f50:=⟨Tryz.f133.name,av,Tryz.func133.trans (congrArg some ag)⟩
 f57:=⟨Tryz.f180.name,av,Tryz.func180.trans (congrArg some ag)⟩
 t0:=Tryz.underlying0
 a0:=Tryz.isAgg0
 z0:=Tryz.sizeOf0
 v0:=Tryz.zeroValue0
 t3:=Tryz.underlying3
 a3:=Tryz.isAgg3
 z3:=Tryz.sizeOf3
 v3:=Tryz.zeroValue3
 t4:=Tryz.underlying4
 a4:=Tryz.isAgg4
 z4:=Tryz.sizeOf4
 v4:=Tryz.zeroValue4
 t5:=Tryz.underlying5
 a5:=Tryz.isAgg5
 z5:=Tryz.sizeOf5
 v5:=Tryz.zeroValue5
 t9:=Tryz.underlying9
 a9:=Tryz.isAgg9
 z9:=Tryz.sizeOf9
 v9:=Tryz.zeroValue9
 t22:=Tryz.underlying48
 a22:=Tryz.isAgg48
 z22:=Tryz.sizeOf48
 v22:=Tryz.zeroValue48
 t25:=Tryz.underlying95
 a25:=Tryz.isAgg95
 z25:=Tryz.sizeOf95
 v25:=Tryz.zeroValue95
 t39:=Tryz.underlying156
 a39:=Tryz.isAgg156
 z39:=Tryz.sizeOf156
 v39:=Tryz.zeroValue156
 t45:=Tryz.underlying215
 a45:=Tryz.isAgg215
 z45:=Tryz.sizeOf215
 v45:=Tryz.zeroValue215
 t46:=Tryz.underlying216
 a46:=Tryz.isAgg216
 z46:=Tryz.sizeOf216
 v46:=Tryz.zeroValue216
 t50:=Tryz.underlying220
 a50:=Tryz.isAgg220
 z50:=Tryz.sizeOf220
 v50:=Tryz.zeroValue220
 t53:=Tryz.underlying223
 a53:=Tryz.isAgg223
 z53:=Tryz.sizeOf223
 v53:=Tryz.zeroValue223
 t55:=Tryz.underlying225
 a55:=Tryz.isAgg225
 z55:=Tryz.sizeOf225
 v55:=Tryz.zeroValue225
 t66:=Tryz.underlying280
 a66:=Tryz.isAgg280
 z66:=Tryz.sizeOf280
 v66:=Tryz.zeroValue280
 t70:=Tryz.underlying284
 a70:=Tryz.isAgg284
 z70:=Tryz.sizeOf284
 v70:=Tryz.zeroValue284
 t76:=Tryz.underlying335
 a76:=Tryz.isAgg335
 z76:=Tryz.sizeOf335
 v76:=Tryz.zeroValue335
 t77:=Tryz.underlying336
 a77:=Tryz.isAgg336
 z77:=Tryz.sizeOf336
 v77:=Tryz.zeroValue336}
def Tryz.NF:Go.Shelf.Ren:=⟨λ|5=>32|7=>62|n=>n,λ|22=>3|3=>3|4=>4|n=>n,λ|n=>n⟩
def Tryz.Xu:Go.Proofs.SlLaysC2.n5 Tryz.prog Tryz.NF:={
 mixed:=ag
 f5:=⟨Tryz.f32.name,av,Tryz.func32.trans (congrArg some ag)⟩
 f7:=⟨Tryz.f62.name,av,Tryz.func62.trans (congrArg some ag)⟩
 t3:=Tryz.underlying3
 a3:=Tryz.isAgg3
 z3:=Tryz.sizeOf3
 v3:=Tryz.zeroValue3
 t4:=Tryz.underlying4
 a4:=Tryz.isAgg4
 z4:=Tryz.sizeOf4
 v4:=Tryz.zeroValue4
 t22:=Tryz.underlying3
 a22:=Tryz.isAgg3
 z22:=Tryz.sizeOf3
 v22:=Tryz.zeroValue3}
end Go.Proofs
namespace Go.aW.Cd
open Go Go.Proofs Go.Sort Go.Shelf Go.RowKit Go.Lib
def afX{M:agt}(w:World)(b n:Nat)(F:Array Value)(J:Array Obj)(j:M b)(l:b < w.heap.size):
 dA M w (grow (putRow id (Sort.ahead w n) b 0 F) J):=by
 have G:∀k,k < w.heap.size->(grow (putRow id (Sort.ahead w n) b 0 F) J).heap[k]? =if b=k then(w.heap[k]?).map (onCells (putCells id 0 F))else w.heap[k]? :=by
  intro k Z;rw[heap_grow_old _ _ (by simpa[putRow,mapBlock,Sort.ahead]using Z)];simp only[putRow,mapBlock,Sort.ahead,ab5]
 refine⟨rfl,rfl,rfl,by simp[putRow,mapBlock,Sort.ahead],λk Z d=>?_,λk Z=>?_⟩
 . have P:¬b=k:=λe=>d (by rw[<-e];exact j);rw[G k Z,if_neg P]
 . simp only[World.shape?,G k Z]
   by_cases a:b=k
   . rw[if_pos a]
     cases h:w.heap[k]? with
     |none=>rfl
     |some o=>cases o<;>simp[onCells,putCells]
   . rw[if_neg a]
def aaX{w:World}{A:agt}{ρ:Env}{u:W}{v:Value}{xs:Array Value}(h:DJ w A ρ [u,.one (.t (.val v))] xs.toList): ∃y,RW w A ρ u y/\xs= #[y,v]:=by
 obtain⟨U,N⟩:=h;have O:xs.toList.length=2:=by rw[<-U];rfl
 match hq:xs.toList,O with
 | [y,z],_=>
   have G:=N 0 _ y rfl (by rw[hq];rfl);have M:=N 1 _ z rfl (by rw[hq];rfl);cases M.1;refine⟨y,G,?_⟩;rw[<-aan (xs:=xs),hq]
section
variable{α:Type}[Inhabited α]
def we(a:α->List Int)(x:α):List Value:=(a x).map (Value.int .i64)
abbrev rG(a:α->List Int)(l:List α):Lz:=l.map λx=>(a x).map λn=>T.val (.int .i64 n)
def sy(c:α->α->Int)(d:Array α):Array α:=pdq (ltOf c) d 0 d.size (Lib.bitLen d.size) true true
def sx(c:α->α->Int)(l:List α):List α:=(sy c l.toArray).toList
def vF{c:α->α->Int}(h:SWO (ltOf c))(d:Array α):PermIn 0 d.size d (sy c d):=(pdq_sorts (ltOf c) h d 0 d.size (Lib.bitLen d.size) true true (aa7 _) (ww _) (Or.inl rfl)).1
def tM{c:α->α->Int}(h:SWO (ltOf c))(l:List α):(sx c l).length=l.length:=by
 have:=(vF h l.toArray).1;simpa[sx]using this
def DH(P:Program)(a:α->List Int)(K:Nat)(c:α->α->Int)(f g:Nat):Prop:=
 (∀ (L M:Nat) (d:Array α) (w:World),HoldsK (we a) K w L 0 d->L < w.heap.size->d.size < 4611686018427387904->
   Calls P f #[.slice (some ⟨L,0,none⟩) d.size M,.func (.func g) #[] #[]] w λe j=>e= .returned (.tuple #[])/\ ∃n J,j=sortWorldK (we a) K w L 0 n (sy c d) J)/\
 (∀ (p:Option Addr) (M:Nat) (w:World),Calls P f #[.slice p 0 M,.func (.func g) #[] #[]] w λe j=>e= .returned (.tuple #[])/\j=w)
variable{j K:Nat}
def aD2{i:Nat}(h:j < K):(i * K+j) / K=i:=by
 rw[abl,Nat.mul_add_div aa,Nat.div_eq_of_lt h,ace]
def aB0{i:Nat}(h:j < K):(i * K+j) % K=j:=by
 rw[abl,Nat.mul_add_mod,adT h]
def aLf{i n:Nat}(I:i < n)(h:j < K):i * K+j < n * K:=by
 have:(i+1) * K<=n * K:=YH _ I;rw[aaw]at this;omega
def akU{a:α->List Int}(d:Array α)(i j:Nat)(x:α)(n:Int)(h:d[i]? =some x)(Q:(a x)[j]? =some n)(J:∀x,(a x).length=K):i * K+j < (flatK (we a) K d).size/\(flatK (we a) K d)[i * K+j]! = .int .i64 n:=by
 obtain⟨I,N⟩:=aat.1 h;have e:d[i]! =x:=by rw[getElem!_pos d i I,N]
 have b:j < K:=by rw[<-J x];exact(jl.1 Q).1
 have S:=aLf I b;refine⟨by rw[size_flatK];exact S,?_⟩;rw[get_flatK _ _ _ _ S,aD2 b,aB0 b,e];have:(we a x)[j]? =some (.int .i64 n):=by simp[we,Q]
 rw[getElem!_def,this]
def Ox{P:Program}{co:α->List Int}{cf:α->α->Int}{f g:Nat}(hS:DH P co K cf f g)(hsw:SWO (ltOf cf))(hK:∀x,(co x).length=K)(hK0:0 < K)(l:List α)(U:l.length < 4611686018427387904):
 Fn P f [.one (.own 0 K 0 l.length),fV g] [(0,.row K (tr (rG co l)))] (aR []) [(0,.row K (tr (rG co (sx cf l))))]:=by
 intro w A ρ o hH hxs;obtain⟨y,R,rfl⟩:=aaX hxs;obtain⟨O,Y⟩:=hH.heap 0 _ rfl;rcases R.1 with⟨b,cap,n,e,s,rfl,k3,k4,k5⟩|⟨s,_,k3,rfl⟩
 . rcases Y with⟨F,c,e',S,H,r3,r4,r5,r6⟩|⟨S,_⟩
   . rw[s]at S;simp only[ii,Loc.gD.injEq]at S;subst S;have G:b < w.heap.size:=(aat.1 r4).1
     have hcell:∀ (i j:Nat) (x:α) (n:Int),l[i]? =some x->(co x)[j]? =some n->c[i * K+j]? =some (.int .i64 n):=by
      intro i j x n I Q;have hrow:(tr (rG co l))[i]? =some (((co x).map λn=>T.val (.int .i64 n)).map C.t):=by simp[tr,I]
      obtain⟨y0,g1,g2,_⟩:=r6 i _ j (.t (.val (.int .i64 n))) hrow Fc;cases g2;exact g1
     have aDD:HoldsK (we co) K w b 0 l.toArray:=by
      intro j Q;rw[size_flatK,abj]at Q;have I:j / K < l.length:=aeo (by rw[abl];exact Q);have r:j % K < K:=ae0 _ hK0;have iw:j=j / K * K+j % K:=by rw[abl];exact(aes j K).symm
      obtain⟨n,d⟩: ∃n,(co l[j / K])[j % K]? =some n:=⟨(co l[j / K])[j % K]'(by rw[hK];exact r),ak⟩;have q1:=hcell (j / K) (j % K) l[j / K] n afx d;obtain⟨_,q3⟩:=akU (K:=K) l.toArray (j / K) (j % K) l[j / K] n afx d hK;rw[<-iw]at q1 q3;refine⟨?_,by simp only[World.frozen?,r4];simp⟩;simp only[World.cell?,r4,id,aas,aew,aag,if_false];rw[q1,q3]
     have D:=hS.1 b cap l.toArray w aDD G (by simpa using U);rw[abj]at D;have B:0 * K=0:=afd _;rw[B];refine D.mono ?_;rintro ex a ⟨rfl,n',J,rfl⟩;have eU:=afX (M:=λk=>pK ρ [(0,bE.row K (tr (rG co l)))] k\/w.heap.size<=k) w b n' (flatK (we co) K (sy cf l.toArray)) J (.inl ⟨0,_,rfl,s⟩) G;have hsz:(sy cf l.toArray).size=l.length:=by have:=tM hsw l;simpa[sx]using this
     refine⟨.tuple #[],A,ρ,bJ 4,rfl,⟨#[],rfl,rfl,λk u x L=>by simp at L⟩,⟨rfl,rfl,λt v z=>by simp[find]at z,λid blk hb'=>?_,λid id' blk gU F q1 q2 q3 q4=>?_,hH.fresh,λk Z=>aar (hH.bound k Z) eU.size,λk Z=> .inr (aal eU.size Z),hH.dR.LN eU (λ_ _ h=>h)⟩,eU,jm.refl _,bY.refl _ _⟩
     . simp only[aF]at hb';split at hb'
       . rename_i e0;subst e0;simp only[ii]at hb';subst hb';have Bb:(tr (rG co l)).length=l.length:=iC
         rw[Bb]at r5;refine⟨λel hel=>?_,.inl ⟨b,putCells id 0 (flatK (we co) K (sy cf l.toArray)) c,e',s,.inl ⟨0,_,rfl,s⟩,r3,?_,?_,λi el j q I Q=>?_⟩⟩
         . simp only[tr,rG,aad]at hel;obtain⟨_,⟨x,_,rfl⟩,rfl⟩:=hel;simp[hK]
         . unfold sortWorldK putRowK;rw[heap_grow_old _ _ (by simpa[putRow,mapBlock,Sort.ahead]using G)];simp[putRow,mapBlock,Sort.ahead,ab5,r4,onCells]
         . simp[tr,tM hsw,putCells];exact r5
         . simp only[tr,rG,yu,jU]at I;obtain⟨_,⟨x,N,rfl⟩,rfl⟩:=I;have hx':(sy cf l.toArray)[i]? =some x:=by simpa[sx]using N
           simp only[yu,jU]at Q;obtain⟨_,⟨n,d,rfl⟩,rfl⟩:=Q;obtain⟨g1,g2⟩:=akU _ i j x n hx' d hK
           have hcs:(putCells id 0 (flatK (we co) K (sy cf l.toArray)) c)[i * K+j]? =some (flatK (we co) K (sy cf l.toArray))[i * K+j]! :=by
            have hkc:i * K+j < c.size:=by
             rw[size_flatK,hsz]at g1;omega
            simp only[putCells,Array.getElem?_mapIdx,aa7,aas,true_and,ad4,g1,if_true,id];rw[Array.getElem?_eq_getElem hkc];rfl
           exact⟨_,hcs,by rw[g2];exact .val rfl,by rw[g2];rfl⟩
       . simp[find]at hb'
     . simp only[aF]at q1 q2;split at q1
       . split at q2
         . omega
         . simp[find]at q2
       . simp[find]at q1
   . rw[s]at S;simp at S
 . have hl0:l=[]:=abd.1 k3;subst hl0;refine(hS.2 none 0 w).mono ?_;rintro ex a ⟨rfl,rfl⟩;have e0:sx cf []=[]:=abd.1 (tM hsw []);exact⟨.tuple #[],A,ρ,bJ 4,rfl,⟨#[],rfl,rfl,λk u x L=>by simp at L⟩,by rw[e0];exact hH,dA.refl _ _,jm.refl _,bY.refl _ _⟩
end
abbrev Zn:=Int×Int
abbrev coZ(x:Zn):List Int:=[x.1,x.2]
abbrev rZ(l:List Zn):Lz:=rG coZ l
def cfZ(x y:Zn):Int:=Lib.compareInt x.1 y.1
def pR(l:List Zn):List Zn:=sx cfZ l
def ltZ(x y:Zn):ltOf cfZ x y=decide (x.1 < y.1):=by
 unfold ltOf cfZ Lib.compareInt
 by_cases O:x.1 < y.1
 . simp[O]
 . by_cases Y:y.1 < x.1<;>simp[O,Y]
def aaE:SWO (ltOf cfZ) where
 irrefl x:=by rw[ltZ];simp
 trans x y z h1 h2:=by rw[ltZ]at *;simp at *;omega
 ntrans x y z h1 h2:=by rw[ltZ]at *;simp at *;omega
def Fa(l:List Zn):(pR l).length=l.length:=tM aaE l
set_option maxHeartbeats 1000000 in
def Xx(x y:Zn)(W:World):Calls Tryz.prog 112 #[.agg #[.int .i64 x.1,.int .i64 x.2],.agg #[.int .i64 y.1,.int .i64 y.2]] W λe w'=>e= .returned (.int .i64 (cfZ x y))/\ ∃q g,w'=grow (W.drewN q) g:=by
 have d:=λc=>AnyG.cmp_Compare_int Tryz.Xu x.1 y.1 c;change ∀c,Calls Tryz.prog 32 _ _ _ at d;unfold cfZ;generalize Lib.compareInt x.1 y.1=r at d⊢
 go_enter Tryz.func112,Tryz.ntmps112
 go_wp2_with (go_at_call 32;refine(d _).mono ?_;rintro e w' ⟨rfl,rfl⟩)
 go_ret
 exact⟨rfl,0,_,by rw[alloc_eq_grow,alloc_eq_grow,grow_grow];rfl⟩
def Un:DH Tryz.prog coZ 2 cfZ 111 112:=by
 refine⟨λL M d w F G S=>?_,λp M w=>?_⟩
 . have e:∀j w,(callFunc 112 j).run Tryz.prog w= .ok (.enter 112 j) w:=enters_of Tryz.func112 ag rfl;exact AnyQ.slices_SortFunc_eq Tryz.Um 2 Tryz.isAgg255 Tryz.sizeOf255 (we coZ) (λ_=>rfl) (λx v z=>by simp[we]at z;rcases z with rfl|rfl<;>rfl) cfZ aaE 112 #[] L 0 M d w e (λ_ _ _ _ x y=>Xx x y _) F G S
 . exact AnyF.slices_SortFunc_none {Tryz.Um with} p M _ w
end Go.aW.Cd
namespace Go.aW.Cd
open Go Go.Proofs
def EY(r:Int)(qs:Lz):List Zn:=qs.filterMap λe=>if nI 0 e=r then some (nI 1 e,nI 2 e)else none
variable{r c b:Int}{a l:List Zn}{ps qs plies:Lz}{j n:Nat}{e:Lt}
def ZG{f t a:Int}(qs:Lz):EY r (qs++[[tI r,tI f,tI t,tI a]])=EY r qs++[(f,t)]:=by
 simp[EY,nI]
def ZF{f t a:Int}(qs:Lz)(h:r≠c):EY c (qs++[[tI r,tI f,tI t,tI a]])=EY c qs:=by
 simp[EY,nI,h]
def N2(r:Int)(qs:Lz):(EY r qs).length<=qs.length:=acp _ _
def rU:List Zn->Bool
 |a::b::r=>decide (a.2<=b.1)&&rU (b::r)|_=>true
def JW(l:List Zn):rU l=true↔ ∀i a b,l[i]? =some a->l[i+1]? =some b->a.2<=b.1:=by
 induction l with
 |nil=>simp[rU]
 |cons x l c=>
  cases l with
  |nil=>simp[rU]
  |cons y l=>
   simp only[rU,LD,decide_eq_true_eq,c];constructor
   . rintro⟨O,Y⟩ i a b w G
     cases i with
     |zero=>simp at w G;subst w G;exact O
     |succ i=>exact Y i a b (by simpa using w) zq
   . intro h;exact⟨h 0 x y rfl rfl,λi a b w G=>h (i+1) a b (by simpa using w) zq⟩
def uy(n:Nat)(qs:Lz):Bool:=(List.range n).all λr=>rU (pR (EY (r:Int) qs))
abbrev partsOf(plies:Lz):Lz:=plies.flatMap (nL 1)
def GUs(n:Nat)(qs:Lz)(ts:Lw):Prop:= ∃z,ts=[oL 1 z,oB (uy n qs)]
def IP(l:List Zn)(i:Int):Prop:= ∀ (j:Nat) (a b:Zn),(j:Int)+1 < i->l[j]? =some a->l[j+1]? =some b->a.2<=b.1
def RUd(l:List Zn)(m:Nat)(vs:List V):Prop:= ∃i:Int,1<=i/\i<=1000000/\m=((l.length:Int)+1 - i).toNat/\vs=[iV .i64 i]/\IP l i
def ajE(S:ps[((j:Int)).toNat]? =some e):ps.take (j+1)=ps.take j++[e]:=by
 have x:ps[j]? =some e:=aA
 rw[abw,x];rfl
def G2{i:Nat}{a:Int}(h:(rZ l)[i]? =some [tI a,tI b]):l[i]? =some (a,b):=by
 simp only[rZ,rG,yu,jU]at h;obtain⟨⟨x,y⟩,O,Y⟩:=h;simp only[coZ,aaq,abh,aaz,T.val.injEq,Value.int.injEq,true_and,and_true]at Y;obtain⟨rfl,rfl⟩:=Y;exact O
def UR(l:List Zn):(rZ l).length=l.length:=ak
def aBq(l:List Zn):cO (rZ l):=λe H=>by
 simp only[rZ,rG,aad]at H;obtain⟨x,_,rfl⟩:=H;exact⟨_,_,rfl⟩
def IP.one(l:List Zn):IP l 1:=λj a b Q=>aa
def IP.next{i a d:Int}{A:Int}(h:IP l i)(O:1<=i)(hi1:A=i - 1)(w:(rZ l)[0+A.toNat]? =some [tI c,tI a])(G:(rZ l)[0+i.toNat]? =some [tI b,tI d])(s:a<=b):IP l (i+1):=by
 rw[aas]at w G;intro j x y Q N B
 by_cases v:(j:Int)+1=i
 . have H:A.toNat=j:=aa
   have o:i.toNat=j+1:=aa
   rw[H]at w;rw[o]at G;rw[G2 w]at N;rw[G2 G]at B;cases N;cases B;exact s
 . exact h j x y aa N B
def IP.all{i:Int}(h:IP l i)(I:(l.length:Int)<=i):rU l=true:=(JW l).2 λj a b w G=>h j a b (by have:=(jl.1 G).1;omega) w G
def U8{i A a d:Int}(O:1<=i)(hi1:A=i - 1)(w:(rZ l)[0+A.toNat]? =some [tI c,tI a])(G:(rZ l)[0+i.toNat]? =some [tI b,tI d])(s:b < a):rU l=false:=by
 cases h:rU l with
 |false=>rfl
 |true=>
  have o:i.toNat=A.toNat+1:=aa
  rw[aas]at w G;rw[o]at G;have:=(JW l).1 h _ _ _ (G2 w) (G2 G);simp only at this;omega
def Z6{r:Nat}(J:r < n)(A:a=pR (EY (r:Int) qs))(h:rU a=false):uy n qs=false:=by
 unfold uy;rw[List.all_eq_false];exact⟨r,by simpa using J,by rw[<-A,h];simp⟩
def T0{k:Int}(Z:(n:Int)<=k)(h:∀r:Nat,(r:Int) < k->rU (pR (EY (r:Int) qs))=true):uy n qs=true:=by
 unfold uy;rw[yt];intro r J;exact h r (by have:=aap.1 J;omega)
def GSo(l:List Zn)(ts:Lw)(N:HS):Prop:=ts=[]/\N=[(0,.row 2 (tr (rZ (pR l))))]
def aaJ(l:List Zn)(U:l.length<=100000): ∃ts N,Fn Tryz.prog 111 [.one (.own 0 2 0 l.length),fV 112] [(0,.row 2 (tr (rZ l)))] (aR ts) N/\GSo l ts N:=
 ⟨[],_,Ox Un aaE (λ_=>rfl) av l aa,rfl,rfl⟩
abbrev HP(n k:Nat)(F:Nat->List Zn):HS:=(2000004,.row 1 (cV k 2 (λj=>(F j).length) n))::(lit,.row 2 (tr (rZ (F k))))::dh 2 (λj=>rZ (F j)) (mem n k)
def TD(ps:Lz)(j:Nat):Nat:=match ps[j]? with
 |some e=>(nI 0 e).toNat|none=>cJ
def vZ(n k:Nat):Nat:=if k < n then k else cJ
def F1(qs:Lz)(r:Nat):List Zn:=EY (r:Int) qs
def F3(qs:Lz)(k r:Nat):List Zn:=if r < k then pR (F1 qs r)else F1 qs r
def RU1(n:Nat)(plies:Lz)(m:Nat)(vs:List V)(hq:HS):Prop:= ∃i:Nat,i<=plies.length/\m=plies.length - i/\vs=[iV .i64 (i:Int)]/\hq=HP n cJ (F1 (partsOf (plies.take i)))
def RU2(n:Nat)(pre ps:Lz)(m:Nat)(vs:List V)(hq:HS):Prop:= ∃j k:Nat,j<=ps.length/\m=ps.length - j/\vs=[iV .i64 (j:Int)]/\k=TD ps j/\hq=HP n k (F1 (pre++ps.take j))
def RU3(n:Nat)(qs:Lz)(m:Nat)(vs:List V)(hq:HS):Prop:= ∃k f:Nat,k<=n/\m=n - k/\vs=[iV .i64 (k:Int)]/\f=vZ n k/\hq=HP n f (F3 qs k)/\ ∀r,r < k->rU (pR (F1 qs r))=true
def Wt(h:∀q,q∈ps->0<=nI 0 q/\nI 0 q < (n:Int))(j:Nat):TD ps j=cJ\/TD ps j < n:=by
 unfold TD;split
 . rename_i e H;have:=h e (oo H);exact .inr aa
 . exact .inl rfl
def arR(h:ps[((j:Int)).toNat]? =some e):TD ps j=(nI 0 e).toNat:=by
 have N:ps[j]? =some e:=bc
 simp only[TD,N]
def aeG(h:ps.length<=j):TD ps j=cJ:=by
 simp only[TD,abe h]
def xK(n k:Nat):vZ n k=cJ\/vZ n k < n:=by
 unfold vZ;split
 . exact .inr aa
 . exact .inl rfl
def IZ{i:Nat}{l:Int}(S:plies[((i:Int)).toNat]? =some [tI l,.aO 4 ps])(Q:ps.length<=j):F1 (partsOf (plies.take i)++ps.take j)=F1 (partsOf (plies.take (i+1))):=by
 have x:plies[i]? =some [tI l,.aO 4 ps]:=aA
 rw[abw,x,aac Q];simp[partsOf,nL]
def I0(pre ps:Lz):F1 (pre++ps.take 0)=F1 pre:=ak
def I1{i:Nat}(h:plies.length<=i):F1 (partsOf (plies.take i))=F1 (partsOf plies):=by rw[aac h]
def aiR(qs:Lz):F3 qs 0=F1 qs:=by funext r;simp[F3]
def YA{pre:Lz}{f t a:Int}(S:ps[((j:Int)).toNat]? =some [tI r,tI f,tI t,tI a])(J:0<=r):F1 (pre++ps.take (j+1)) r.toNat=F1 (pre++ps.take j) r.toNat++[(f,t)]:=by
 unfold F1;rw[ajE S, <-aaQ,show((r.toNat:Nat):Int)=r by omega,ZG]
def Yv{pre:Lz}{c:Nat}{f t a:Int}(S:ps[((j:Int)).toNat]? =some [tI r,tI f,tI t,tI a])(J:c≠r.toNat)(z:0<=r):F1 (pre++ps.take (j+1)) c=F1 (pre++ps.take j) c:=by
 unfold F1;rw[ajE S, <-aaQ,ZF _ aa]
def alZ(qs:Lz)(k:Nat):F3 qs (k+1) k=pR (F3 qs k k):=by simp[F3]
def alY{k:Nat}(h:j≠k):F3 qs (k+1) j=F3 qs k j:=by
 have e:(j < k+1)=(j < k):=by apply propext;omega
 simp only[F3,e]
def BR(qs:Lz)(k:Nat):F3 qs k k=F1 qs k:=by simp[F3]
def auL(n:Nat)(plies:Lz):((2000004,bE.row 1 (cV cJ 2 (λ_=>0) n))::(([]:HS)++(lit,bE.row 2 (tr []))::dh 2 (λ_=>[]) (mem n cJ)))=HP n cJ (F1 (partsOf (plies.take 0))):=by
 have e:F1 (partsOf (plies.take 0))=λ_=>[]:=by funext r;simp[F1,partsOf,EY]
 rw[e];rfl
def wT{k P:Nat}{F F':Nat->List Zn}{f:Nat->Option Nat}(o:∀j,j≠k->F' j=F j)(U:(F' k).length=(F k).length)(R:∀j,j < n->f (CG lit k j)=some (nm P j)):(bE.row 1 (cV k 2 (λj=>(F j).length) n)).aM f= .row 1 (cV P 2 (λj=>(F' j).length) n):=
 kn (λj _=>if e:j=k then by rw[e,U]else by rw[o j e]) R
def ahF{k P E q i:Nat}{F F':Nat->List Zn}{f:Nat->Option Nat}(I:i=k)(o:∀j,j≠k->F' j=F j)(U:(F' k).length=q)(R:∀j,j < n->f (CG E k j)=some (nm P j)):(bE.row 1 ((cV k 2 (λj=>(F j).length) n).set i [.own E 2 0 q])).aM f= .row 1 (cV P 2 (λj=>(F' j).length) n):=by
 subst I;exact Fb (λj _=>if e:j=i then by rw[if_pos e,e,U]else by rw[if_neg e,o j e]) R
def abF{z:List Zn}{f t:Int}(h:a=z++[(f,t)]):aL (tr (rZ z)++[[C.t (tI f),C.t (tI t)]]) (rZ a):=by
 subst h;simp[aL,tr,rG]
abbrev HZ(n k:Nat)(F:Nat->List Zn)(a:List Zn):HS:=(2000004,.row 1 (cV k 2 (λj=>(F j).length) n))::([(lit,.row 2 (tr (rZ a)))]++dh 2 (λj=>rZ (F j)) (mem n k))
def alV{k:Nat}{F:Nat->List Zn}{rows:Lq}(h:aL rows (rZ a)):((2000004,bE.row 1 (cV k 2 (λj=>(F j).length) n))::([(lit,bE.row 2 rows)]++dh 2 (λj=>rZ (F j)) (mem n k)))=HZ n k F a:=by rw[h]
def RU4(n k:Nat)(F:Nat->List Zn)(a:List Zn)(m:Nat)(vs:List V)(hq:HS):Prop:=RUd a m vs/\hq=HZ n k F a
def auQ(qs:Lz)(k:Nat):(F3 qs (k+1) k).length=(F3 qs k k).length:=by rw[alZ,Fa]
def atH{k:Nat}(h:∀r,r < k->rU (pR (F1 qs r))=true)(A:a=pR (F3 qs k k))(O:rU a=true):∀r,r < k+1->rU (pR (F1 qs r))=true:=by
 intro r J
 by_cases e:r=k
 . subst e;rw[A,BR]at O;exact O
 . exact h r aa
def wL(v:Lz)(YY:v.length<=800000)(ln U b o:Int)(sizes places plies:Lz)(hy:∀e,e∈plies-> ∃l q,e=[tI l,.aO 4 q]/\ZA q)(s:plies.length<=1000000)(x:∀e,e∈plies->(nL 1 e).length<=1000)(L:∀i,(partsOf (plies.take i)).length<=100000)(B:∀e,e∈plies-> ∀q,q∈nL 1 e->0<=nI 0 q/\nI 0 q < (v.length:Int)):Tg 68 [pn ln U b o sizes places plies,oL 7 v] (GUs v.length (partsOf plies)):=by
 have hZ:∀c:Nat,(F1 (partsOf plies) c).length<=100000:=λc=>by have O:=N2 c (partsOf plies);have Y:=L plies.length;rw[aac (ww _)]at Y;unfold F1;omega
 have K:v.length<=cJ:=by simp only[cJ];omega
 refine aS ?_;refine aC Tryz.func68 ?_
 repeat' ((conv=>whnf);first|refine aJ (λh=>?_) (λh=>?_)|(refine aG (xs:=plies) hy aa aa ?_;rintro _ ⟨l,g,rfl,d⟩ S;have hcq:=B _ (oo S);have hb5:g.length<=1000:=x _ (oo S);have ht5:=L i;replace hcq:∀q,q∈g->0<=nI 0 q/\nI 0 q < (v.length:Int):=hcq)|(refine aG (xs:=g) d aa aa ?_;rintro _ ⟨y,w,t1,M,rfl⟩ P;obtain⟨yB,zi⟩:0<=y/\y < (v.length:Int):=hcq _ (oo P);(have xB:k=y.toNat:=by rw[Z,arR P];rfl);subst xB)|(have H:(F1 (partsOf (plies.take i)++g.take j) y.toNat).length<=101000:=(by have O:=N2 (y.toNat:Int) (partsOf (plies.take i)++g.take j);unfold F1;simp only[XV,aab]at O;omega);refine And.intro ⟨by simp[tr],by simp[tr,bh];omega,by simp[tr,maxLen];omega⟩ ?_)|(have hj1:IntKind.i64.wrap (i4 - 1)=i4 - 1:=bF aa aa;generalize IntKind.i64.wrap (i4 - 1)=j1 at hj1⊢;refine And.intro ⟨aa,aa⟩ ?_)|refine And.intro ⟨aa,aa⟩ ?_|refine And.intro ag ?_|(have N:=hj1;clear N;apply Oa [6,12,13,49,50,51] v.length z 2 (λc=>rZ (F3 (partsOf plies) z c)) (.row 1 (cV z 2 (λc=>(F3 (partsOf plies) z c).length) v.length));(conv=>whnf);exact⟨rfl,rfl,rfl,rfl,rfl,rfl,rfl,rfl⟩;exact rfl;(repeat first|exact jo.here|refine jo.cons ?_ rfl);exact K;exact(λf R=>kn (λj _=>rfl) R);exact⟨_,[_],⟨⟨i4+1,aa,aa,rfl,by rw[bF aa aa],hpz.next hi4 hj1 Tv hsa aa⟩,alV (aL.aM (xs:=rZ zl) rfl _)⟩,rfl,rfl,aa⟩)|(have N:=hpz;clear N;apply gf [6,49,50,51] v.length z (vZ v.length (z+1)) lit 2 (λc=>rZ (F3 (partsOf plies) z c)) (λc=>rZ (F3 (partsOf plies) (z+1) c)) (.row 1 (cV (vZ v.length (z+1)) 2 (λc=>(F3 (partsOf plies) (z+1) c).length) v.length));(conv=>whnf);exact⟨rfl,rfl,rfl,rfl,rfl,rfl,rfl⟩;exact rfl;exact rfl;exact rfl;(repeat first|exact jo.here|refine jo.cons ?_ rfl);exact K;exact .inr aa;exact xK _ _;(rw[alZ, <-A];rfl);(intro c D;rw[alY D]);exact(λf R=>wT (λc D=>alY D) (auQ _ _) R);exact⟨_,[_],⟨z+1,_,aa,rfl,by rw[bF aa aa];rfl,rfl,rfl,atH n A (hpz.all aa)⟩,rfl,rfl,aa⟩)|(apply gf [6,18,19,20,25,26,27] v.length y.toNat (TD g (j+1)) 2000084 2 (λc=>rZ (F1 (partsOf (plies.take i)++g.take j) c)) (λc=>rZ (F1 (partsOf (plies.take i)++g.take (j+1)) c)) (.row 1 (cV (TD g (j+1)) 2 (λc=>(F1 (partsOf (plies.take i)++g.take (j+1)) c).length) v.length));(conv=>whnf);exact⟨rfl,rfl,rfl,rfl,rfl,rfl,rfl⟩;exact rfl;exact rfl;exact rfl;(repeat first|exact jo.here|refine jo.cons ?_ rfl);exact K;exact .inr aa;exact Wt hcq _;exact abF (YA P yB);(intro c D;rw[Yv P D yB]);exact(λf R=>ahF aa (λc D=>Yv P D yB) (by rw[YA P yB];simp[tr]) R);exact⟨_,[_],⟨j+1,_,aa,rfl,by rw[bF aa aa];rfl,rfl,rfl⟩,rfl,rfl,aa⟩)|(have hj2:g.length<=j:=aa;have xB:k=cJ:=(by rw[Z,aeG hj2]);clear Z;subst xB;apply gf [6,18,19,20] v.length cJ cJ lit 2 (λc=>rZ (F1 (partsOf (plies.take i)++g.take j) c)) (λc=>rZ (F1 (partsOf (plies.take (i+1))) c)) (.row 1 (cV cJ 2 (λc=>(F1 (partsOf (plies.take (i+1))) c).length) v.length));(conv=>whnf);exact⟨rfl,rfl,rfl,rfl,rfl,rfl,rfl⟩;exact rfl;exact rfl;exact rfl;(repeat first|exact jo.here|refine jo.cons ?_ rfl);exact K;exact .inl rfl;exact .inl rfl;(rw[<-IZ S hj2];rfl);(intro c _;rw[<-IZ S hj2]);exact(λf R=>wT (λc _=>by rw[<-IZ S hj2]) (by rw[<-IZ S hj2]) R);exact⟨_,[_],⟨i+1,aa,rfl,by rw[bF aa aa];rfl,rfl⟩,rfl,rfl,aa⟩)|(have N:=hzn;clear N;apply ZS [6,12,13,49,50,51] [13] (RU4 v.length z (F3 (partsOf plies) z) zl) zl.length [iV .i64 1] v.length z 2 (λc=>rZ (F3 (partsOf plies) z c)) (.row 1 (cV z 2 (λc=>(F3 (partsOf plies) z c).length) v.length));(conv=>whnf);exact⟨rfl,rfl,rfl,rfl,rfl,rfl,rfl,rfl⟩;exact rfl;exact rfl;(repeat first|exact jo.here|refine jo.cons ?_ rfl);exact K;exact(λf R=>kn (λj _=>rfl) R);exact⟨⟨1,aa,aa,aa,rfl,IP.one zl⟩,alV (aL.aM (aL.aM (xs:=rZ zl) rfl _) _)⟩;rintro _ _ _ ⟨⟨i4,hi4,hi5,rfl,rfl,hpz⟩,rfl⟩)|(have N:=S;clear N;apply Gq [6,18,19,20,25,26,27] [27] (RU2 v.length (partsOf (plies.take i)) g) g.length [iV .i64 0] v.length cJ (TD g 0) lit 2 (λc=>rZ (F1 (partsOf (plies.take i)) c)) (λc=>rZ (F1 (partsOf (plies.take i)++g.take 0) c)) (.row 1 (cV (TD g 0) 2 (λc=>(F1 (partsOf (plies.take i)++g.take 0) c).length) v.length));(conv=>whnf);exact⟨rfl,rfl,rfl,rfl,rfl,rfl,rfl⟩;exact rfl;exact rfl;exact rfl;exact rfl;(repeat first|exact jo.here|refine jo.cons ?_ rfl);exact K;exact .inl rfl;exact Wt hcq 0;(rw[I0];rfl);(intro j _;rw[I0]);exact(λf R=>wT (λj _=>by rw[I0]) (by rw[I0]) R);exact⟨0,_,aa,rfl,rfl,rfl,rfl⟩;rintro _ _ _ ⟨j,k,Q,rfl,rfl,Z,rfl⟩)|(have hi2:plies.length<=i:=aa;apply Gq [6,49,50,51] [51] (RU3 v.length (partsOf plies)) v.length [iV .i64 0] v.length cJ (vZ v.length 0) lit 2 (λc=>rZ (F1 (partsOf (plies.take i)) c)) (λc=>rZ (F3 (partsOf plies) 0 c)) (.row 1 (cV (vZ v.length 0) 2 (λc=>(F3 (partsOf plies) 0 c).length) v.length));(conv=>whnf);exact⟨rfl,rfl,rfl,rfl,rfl,rfl,rfl⟩;exact rfl;exact rfl;exact rfl;exact rfl;(repeat first|exact jo.here|refine jo.cons ?_ rfl);exact K;exact .inl rfl;exact xK _ _;(rw[aiR,I1 hi2];rfl);(intro c _;rw[aiR,I1 hi2]);exact(λf R=>wT (λc _=>by rw[aiR,I1 hi2]) (by rw[aiR,I1 hi2]) R);exact⟨0,_,aa,rfl,rfl,rfl,rfl,λr J=>by omega⟩;rintro _ _ _ ⟨z,f,hk3,rfl,rfl,R,rfl,n⟩)|(refine amN [2000000] rfl (aaJ (F3 (partsOf plies) z z) (by rw[BR];exact hZ _)) rfl (sV rfl (rfl:aL _ (rZ (F3 (partsOf plies) z z)))) (DV.keep (DV.drop (DV.here rfl (qR K)) rfl) rfl) ?_;rintro _ _ ⟨rfl,rfl⟩;obtain⟨zl,A⟩: ∃zl,zl=pR (F3 (partsOf plies) z z):=⟨_,rfl⟩;rw[<-A];have hzn:zl.length=(F3 (partsOf plies) z z).length:=(by rw[A,Fa]);have G:zl.length<=100000:=(by rw[hzn,BR];exact hZ _))|(apply ZR [6,18,19,20] [20] (RU1 v.length plies) plies.length [iV .i64 0] 2;(conv=>whnf);exact⟨rfl,rfl,rfl,rfl,rfl,rfl⟩;exact rfl;exact aL.aM (aL.replicate _ [dw]) _;exact K;exact⟨0,aa,rfl,rfl,auL _ _⟩;rintro _ _ _ ⟨i,I,rfl,rfl,rfl⟩)|(have xD:f=z:=(by rw[R];exact if_pos aa);clear R;subst f;refine Gn ?_ ?_ ?_;omega;omega)|(refine Gn ?_ ?_ ?_;omega;omega)|refine LY rfl (qR K) ?_|refine Gs ?_|(refine cu (xs:=rZ zl) rfl (aBq zl) (by rw[UR];omega) ?_;first|(rintro _ ⟨a6,b6,rfl⟩ Tv;have:=hsa)|rintro _ ⟨a,b5,rfl⟩ hsa)|exact eL rfl (dy 1 rfl) (cv rfl) ⟨_,by rw[Z6 (r:=z) aa (by rw[A,BR];rfl) (U8 hi4 hj1 Tv hsa aa)]⟩|(have xD:f=cJ:=(by rw[R];exact if_neg aa);clear R;subst f;exact eL rfl (abE (F:=(λc=>rZ (F3 (partsOf plies) z c))) rfl rfl aa (λj=>(UR _).symm) K K (by(repeat first|exact jo.here|refine jo.cons ?_ rfl))) (cv rfl) ⟨_,by rw[T0 (k:=(z:Int)) aa (λr J=>n r aa)]⟩))
end Go.aW.Cd
namespace Go.aW.Cd
open Go Go.Proofs
variable[kw]
def SZ(bs:Lz)(j:Nat):Int:=IntKind.i64.wrap (nI 5 ((bs[j]?).getD []) - nI 4 ((bs[j]?).getD []))
def YQ(bs:Lz)(_id j:Nat):C:= .t (tI (SZ bs j))
def Du{bs:Lz}{k n:Nat}(f:Nat->Option Nat):(bQ (YQ bs) k n (lC bs)).map (λp=>(p.1,p.2.1.aM f,p.2.2))=bQ (YQ bs) k n (lC bs):=by
 simp only[bQ,acm];rfl
def agV{bs:Lz}{k n:Nat}(f g:Nat->Option Nat):((bQ (YQ bs) k n (lC bs)).map (λp=>(p.1,p.2.1.aM f,p.2.2))).map (λp=>(p.1,p.2.1.aM g,p.2.2))=bQ (YQ bs) k n (lC bs):=by rw[Du,Du]
def agW{bs:Lz}{i:Nat}{t g s l f o:Int}(fr:Nat->Option Nat)(h:bs[((i:Int)).toNat]? =some [tI t,tI g,tI s,tI l,tI f,tI o]):((bQ (YQ bs) 0 i (lC bs)++[(.int .i64 t,.t (tI (IntKind.i64.wrap (o - f))),i)]):cF).map (λp=>(p.1,p.2.1.aM fr,p.2.2))=bQ (YQ bs) 0 (i+1) (lC bs):=by
 have N:bs[i]? =some [tI t,tI g,tI s,tI l,tI f,tI o]:=bc
 rw[adt,Du];simp only[bQ,abf,adt,aaq,abh,YQ,C.aM,SZ,lC,N,YJ];rfl
def RO(os:Lz)(x:Lt):Int:=nI 2 (Lo os (nI 1 x))
def Xp(bs:Lz)(x:Lt):Int:=SZ bs (kY (lC bs) bs.length (nI 0 x))
def amX(r:Int)(os bs:Lz)(x:Lt):Int:=Lu r (RO os x) (Xp bs x)
def og(r:Int)(os bs d:Lz)(c:Nat):Lz:=d.filterMap λx=>if(nI 2 x).toNat=c then some [tI (amX r os bs x)]else none
def AmA(r l:Int)(os bs d:Lz):Prop:= ∀x,x∈d->EV r l (RO os x) (Xp bs x)
variable{d:Lz}
def XL{r:Int}{os bs:Lz}{tk op w a:Int}{c:Nat}(h:w.toNat=c):og r os bs (d++[[tI tk,tI op,tI w,tI a]]) c=og r os bs d c++[[tI (amX r os bs [tI tk,tI op,tI w,tI a])]]:=by
 have e:nI 2 [tI tk,tI op,tI w,tI a]=w:=rfl;simp[og,e,h]
def XK{r:Int}{os bs:Lz}{tk op w a:Int}{c:Nat}(h:w.toNat≠c):og r os bs (d++[[tI tk,tI op,tI w,tI a]]) c=og r os bs d c:=by
 have e:nI 2 [tI tk,tI op,tI w,tI a]=w:=rfl;simp[og,e,h]
def NN{r l:Int}{os bs:Lz}(h:AmA r l os bs d)(c:Nat):Ams (og r os bs d c):=by
 intro e H;simp only[og,aau]at H;obtain⟨x,N,Y⟩:=H;split at Y
 . simp only[ii]at Y;subst Y;obtain⟨_,_,B⟩:=QC (h x N);exact⟨_,rfl,B⟩
 . cases Y
def IJ(r:Int)(os bs d:Lz)(c:Nat):(og r os bs d c).length<=d.length:=acp _ _
def V5{r l:Int}{os bs:Lz}{x:Lt}(h:AmA r l os bs d)(hx:EV r l (RO os x) (Xp bs x)):AmA r l os bs (d++[x]):=by
 intro e H;rcases yl.1 H with H|H
 . exact h e H
 . simp only[vv]at H;subst H;exact hx
section
variable{os bs ws xs:Lz}{tk op w a m t n1 r l:Int}{nm:ByteArray}{af us:Lz}{j:Nat}
def MI(B:os[op.toNat]? =some [.val (.string nm),tI m,tI t,.aO 1 af,.aO 1 us]):RO os [tI tk,tI op,tI w,tI a]=t:=by
 show nI 2 (Lo os op)=t;rw[NM B];rfl
def aEi(B:os[op.toNat]? =some [.val (.string nm),tI m,tI t,.aO 1 af,.aO 1 us])(h:EV r l t (SZ bs (kY (lC bs) bs.length tk))):EV r l (RO os [tI tk,tI op,tI w,tI a]) (Xp bs [tI tk,tI op,tI w,tI a]):=by
 rw[MI B];exact h
def atF(B:os[op.toNat]? =some [.val (.string nm),tI m,tI t,.aO 1 af,.aO 1 us])(h:EV r l (RO os [tI tk,tI op,tI w,tI a]) (Xp bs [tI tk,tI op,tI w,tI a])):EV r l t (SZ bs (kY (lC bs) bs.length tk)):=by
 rw[MI B]at h;exact h
def atD{d:Lz}{c:Nat}(_:xs[((j:Int)).toNat]? =some [tI tk,tI op,tI w,tI a])(B:os[op.toNat]? =some [.val (.string nm),tI m,tI t,.aO 1 af,.aO 1 us])(K:n1=Lu r t (SZ bs (kY (lC bs) bs.length tk))):aL (tr (og r os bs d c)++[[C.t (tI n1)]]) (og r os bs d c++[[tI (amX r os bs [tI tk,tI op,tI w,tI a])]]):=by
 have:amX r os bs [tI tk,tI op,tI w,tI a]=n1:=by
  unfold amX;rw[MI B,K];rfl
 rw[this];simp[aL,tr]
def U3(h:xs[((j:Int)).toNat]? =some [tI tk,tI op,tI w,tI a])(d:oJ os ws bs xs j=1):¬rX os ws op w a/\kY (lC bs) bs.length tk < bs.length:=by
 rw[JT h]at d;have d:(if kY (lC bs) bs.length tk < bs.length then DY os ws (kW os ws bs xs j tk).1 (kW os ws bs xs j tk).2 op w a else 3)=1:=d;split at d
 . exact⟨VA d,ai⟩
 . cases d
def uh(os ws bs xs:Lz)(j:Nat):Nat:=match xs[j]? with
 |some x=>if oJ os ws bs xs j=1 then(nI 2 x).toNat else cJ
 |none=>cJ
def Ib(hx:∀e,e∈xs->zO e)(j:Nat):uh os ws bs xs j=cJ\/uh os ws bs xs j < ws.length:=by
 unfold uh;split
 . rename_i x S;split
   . rename_i d;obtain⟨tk,op,w,a,rfl⟩:=hx x (oo S);have:=(U3 aA d).1;simp only[rX]at this;have e:nI 2 [tI tk,tI op,tI w,tI a]=w:=rfl;rw[e];exact .inr aa
   . exact .inl rfl
 . exact .inl rfl
def aeH(h:xs[((j:Int)).toNat]? =some [tI tk,tI op,tI w,tI a])(d:oJ os ws bs xs j≠1):uh os ws bs xs j=cJ:=by
 have N:xs[j]? =some [tI tk,tI op,tI w,tI a]:=bc
 simp only[uh,N,if_neg d]
def Wu(h:xs[((j:Int)).toNat]? =some [tI tk,tI op,tI w,tI a])(d:oJ os ws bs xs j=1):uh os ws bs xs j=w.toNat:=by
 have N:xs[j]? =some [tI tk,tI op,tI w,tI a]:=bc
 simp only[uh,N,if_pos d];rfl
def Wv(h:xs.length<=j):uh os ws bs xs j=cJ:=by simp only[uh,abe h]
end
def atE{n k P E q i:Nat}{F F':Nat->Lz}{f:Nat->Option Nat}(I:i=k)(o:∀j,j≠k->F' j=F j)(U:(F' k).length=q)(R:∀j,j < n->f (CG E k j)=some (nm P j)):(bE.row 1 ((cV k 1 (λj=>(F j).length) n).set i [.own E 1 0 q])).aM f= .row 1 (cV P 1 (λj=>(F' j).length) n):=by
 subst I;exact Fb (λj _=>if e:j=i then by rw[if_pos e,e,U]else by rw[if_neg e,o j e]) R
abbrev HPy(st:Lc)(r l:Int)(es:cF)(ck n k:Nat)(F:Nat->Lz):HS:=(2000004,.row 1 (cV k 1 (λc=>(F c).length) n))::([(2000008,.mp es ck),(2000012,.row 7 [st]),(2000016,.row 2 [[.t (tI r),.t (tI l)]])]++(lit,.row 1 (tr (F k)))::dh 1 F (mem n k))
def am0(r:Int)(os ws bs xs:Lz):og r os bs (iH os ws bs xs 0)=λ_=>[]:=by funext c;simp[og,iH]
def RC0(st:Lc)(r l:Int)(bs:Lz)(m:Nat)(vs:List V)(hq:HS):Prop:= ∃ (i:Nat) (B:cF),i<=bs.length/\m=bs.length - i/\vs=[iV .i64 (i:Int)]/\B=bQ (YQ bs) 0 i (lC bs)/\hq=[(4,.row 7 [st]),(8,.row 2 [[.t (tI r),.t (tI l)]]),(12,.mp B i)]
def RPy(st:Lc)(r l:Int)(os ws bs xs:Lz)(m:Nat)(vs:List V)(hq:HS):Prop:= ∃ (j k:Nat) (B:cF),j<=xs.length/\m=xs.length - j/\vs=[iV .i64 (j:Int)]/\k=uh os ws bs xs j/\B=bQ (YQ bs) 0 bs.length (lC bs)/\hq=HPy st r l B bs.length ws.length k (og r os bs (iH os ws bs xs j))/\AmA r l os bs (iH os ws bs xs j)
def RG(l:Int)(w:Nat)(s:Int):Lt:=[tI (w:Int),tI s,tI (if 0 > l - s then 0 else l - s)]
def BD(r l:Int)(os bs d:Lz)(n:Nat):Lz:=(List.range n).filterMap λw=>if og r os bs d w=[]then none else some (RG l w (pN (og r os bs d w)))
variable{d:Lz}
def abK{r l:Int}{os bs:Lz}{q:Nat}{e:Lt}(P:og r os bs d q≠ [])(H:e=RG l q (pN (og r os bs d q))):BD r l os bs d (q+1)=BD r l os bs d q++[e]:=by
 subst H;simp[BD,abf,P]
def abI{r l:Int}{os bs:Lz}{q:Nat}(h:((og r os bs d q).length:Int)=0):BD r l os bs d (q+1)=BD r l os bs d q:=by
 have:og r os bs d q=[]:=abd.1 aa;simp[BD,abf,this]
def abJ(r l:Int)(os bs d:Lz)(n:Nat):(BD r l os bs d n).length<=n:=by
 have:=acp (λw=>if og r os bs d w=[]then none else some (RG l w (pN (og r os bs d w)))) (List.range n);simpa[BD]using this
def aoP{l a:Int}{q:Nat}{F:Lz}(U:0<=l/\l<=1073741824)(w:Ams F)(K:F.length<=300)(h:a=pN F): [tI (q:Int),tI a,tI (if 0 > IntKind.i64.wrap (l - a)then 0 else IntKind.i64.wrap (l - a))]=RG l q (pN F):=by
 subst h;have:=wG w;rw[bF (n:=l - pN F) aa aa];rfl
def RQy(r l:Int)(n:Nat)(F:Nat->Lz)(Z:Nat->Lz)(m:Nat)(vs:List V)(hq:HS):Prop:= ∃ (q f:Nat) (M:Lz) (a:Lq),q<=n/\m=n - q/\vs=[bD 2000012 3 M.length,iV .i64 (q:Int)]/\f=vZ n q/\aL a M/\M=Z q/\
 hq=(2000004,.row 1 (cV f 1 (λc=>(F c).length) n))::([(2000008,.row 2 [[.t (tI r),.t (tI l)]]),(2000012,.row 3 a)]++(lit,.row 1 (tr (F f)))::dh 1 F (mem n f))
structure auB(E r l:Int)(os ws bs xs:Lz):Prop where
 tf:XU r l
 jg:E=0
 am:AmA r l os bs (iH os ws bs xs xs.length)
def GPy(E r l:Int)(os ws bs xs:Lz)(ts:Lw):Prop:= ∃ (M:Lz) (e:Int),ts=[oL 3 M,oI e]/\(e=0↔auB E r l os ws bs xs)/\(e=0->M=BD r l os bs (iH os ws bs xs xs.length) ws.length)/\(e≠0->M=[])
def Nd{E r l e:Int}{os ws bs xs:Lz}(H:e≠0)(h:auB E r l os ws bs xs->False):GPy E r l os ws bs xs [oL 3 [],oI e]:=⟨_,_,rfl,iff_of_false H h,λz=>absurd z H,λ_=>rfl⟩
def acN{hp:HS}{f id len:Nat}{xs:Lz}(R:find hp id=some (.row 1 (tr xs)))(U:len=xs.length):bB (bM hp) [fV f,.one (.own id 1 0 len)]=some [fV f,oL 1 xs]:=by
 subst U;have h:=kO (i:=0) (len:=xs.length) R (rfl:aL _ xs) aa;rw[cD rfl]at h;have Y:bM hp (fV f)=some (fV f):=rfl;simp only[bB,h,Y]
def apG{os ws bs xs:Lz}{j:Nat}{x:Lt}(h:xs[((j:Int)).toNat]? =some x)(d:oJ os ws bs xs j=1):x∈iH os ws bs xs xs.length:=by
 have N:xs[j]? =some x:=bc
 simp only[iH,aau];exact⟨j,aap.2 (jl.1 N).1,by rw[if_pos d,N]⟩
def Q1(x:ByteArray)(Y L ps us O os:Lz)(P:eu x Y L ps us O os)(bs:Lz)(G:I4 bs)(pJ:bs.length<=maxLen)(ws:Lz)(N:∀e,e∈ws->Bv e)(U:ws.length<=100)(xs:Lz)(hx:∀e,e∈xs->zO e)(r l:Int):Tg 19 [dV x Y L ps us O os,oL 6 bs,oL 2 ws,oL 4 xs,oTf r l] (GPy (Vz x Y L ps us O os bs ws xs) r l os ws bs xs):=by
 have K:ws.length<=cJ:=by simp only[cJ];omega
 refine aS ?_;refine aC Tryz.func19 ?_
 repeat' ((conv=>whnf);first|refine bZz (λh=>?_) (λh=>?_)|(have hal:=IJ r os bs (iH os ws bs xs j) k;have eX:=tP os ws bs xs j;refine And.intro ⟨by simp[tr],by simp[tr,bh];omega,by simp[tr,maxLen];omega⟩ ?_)|(have iF:=abJ r l os bs (iH os ws bs xs xs.length) q;rw[<-A]at iF;refine And.intro ⟨by simp[tr],by simp[tr,bh];omega,by simp[tr,maxLen];omega⟩ ?_)|(refine aG (xs:=bs) G aa aa ?_;rintro _ ⟨t,g,s,l2,f,o,rfl⟩ hs1)|(refine aG (xs:=xs) hx aa aa ?_;rintro _ ⟨tk,op,w,a,rfl⟩ S)|(simp only[if_pos hE0];refine aG (xs:=mL os ws bs xs) (Hj _ _ _ _) aa (by rw[CC];omega) ?_;rintro _ ⟨v,rfl⟩ dN;have B:=Hl dN)|(have CW:v=1:=ai;obtain⟨hU,hidx⟩:=U3 S af9;simp only[rX]at hU;have hk8:k=w.toNat:=(by rw[Z,Wu S af9]);refine aG (xs:=os) P.hos aa aa ?_;rintro _ ⟨nm,m,t,af,rz,rfl,hnm,_⟩ uS)|refine And.intro ag ?_|refine And.intro aa ?_|(refine aD rfl (vu r l) ?_;rintro _ ⟨e,rfl,H⟩)|(refine aD rfl (kj x Y L ps us O os P bs G pJ ws N bq xs hx) ?_;rintro _ ⟨rfl,hJ,_⟩)|(refine aN rfl (Jj r l t _) ?_;rintro _ ⟨n1,y,rfl,he1,rV⟩)|(have hE0:Vz x Y L ps us O os bs ws xs=0:=aa;have hJ2:=hJ hE0;have TB:=hJ2.bn;have hxn:=hJ2.n;refine jq ?_)|(refine Jd (es:=bQ (YQ bs) 0 i (lC bs)) (clock:=i) rfl rfl rfl rfl Tryz.underlying121 (iu Tryz.underlying3) ⟨t,rfl⟩ nw ?_;intro es' ck' hput;obtain⟨rfl,rfl⟩:=OO hJ2.tk aa hs1 hput)|(have F:=rV;clear F;have VY:(iH os ws bs xs (j+1))=(iH os ws bs xs j)++[[tI tk,tI op,tI w,tI a]]:=OS S af9;have aJI:=rV aa;apply gf [18,15,5,9,13,62,63,64] ws.length k (uh os ws bs xs (j+1)) 2000188 1 (og r os bs (iH os ws bs xs j)) (og r os bs (iH os ws bs xs (j+1))) (.row 1 (cV (uh os ws bs xs (j+1)) 1 (λc=>(og r os bs (iH os ws bs xs (j+1)) c).length) ws.length));(conv=>whnf);exact⟨rfl,rfl,rfl,rfl,rfl,rfl,rfl⟩;exact rfl;exact rfl;exact rfl;(repeat first|exact jo.here|refine jo.cons ?_ rfl);exact K;exact .inr aa;exact Ib hx _;(rw[VY,XL aa];exact atD S uS aJI);(intro c D;rw[VY,XK aa]);(intro f R;exact atE aa (λc D=>by rw[VY,XK aa]) (by rw[VY,XL aa];simp[tr]) R);exact⟨_,[_],⟨j+1,_,_,aa,rfl,by rw[bF aa aa];rfl,rfl,Du _,rfl,by rw[VY];exact V5 ham (aEi uS (he1.1 aa))⟩,rfl,rfl,aa⟩)|(have F:=Kn;clear F;have b:og r os bs (iH os ws bs xs xs.length) q≠ []:=(by intro z;rw[z]at h;simp at h);apply gf [106,9,23,107,108] ws.length q (vZ ws.length (q+1)) lit 1 (og r os bs (iH os ws bs xs xs.length)) (og r os bs (iH os ws bs xs xs.length)) (.row 1 (cV (vZ ws.length (q+1)) 1 (λc=>(og r os bs (iH os ws bs xs xs.length) c).length) ws.length));(conv=>whnf);exact⟨rfl,rfl,rfl,rfl,rfl,rfl,rfl⟩;exact rfl;exact rfl;exact rfl;(repeat first|exact jo.here|refine jo.cons ?_ rfl);exact K;exact .inr aa;exact xK _ _;exact rfl;exact(λ_ _=>rfl);exact(λf R=>kn (λ_ _=>rfl) R);exact⟨_,[_,_],⟨q+1,_,_,_,aa,rfl,by rw[bF aa aa];simp[tr],rfl,aL.aM (aL.snoc (xs:=M) rfl [tI _,tI _,tI _]) _,by rw[A];exact(abK b (aoP (H.1 aa).2 (NN ham q) p0 Kn)).symm,rfl⟩,rfl,rfl,aa⟩)|(have F:=A;clear F;apply gf [106,9,23,107,108] ws.length q (vZ ws.length (q+1)) lit 1 (og r os bs (iH os ws bs xs xs.length)) (og r os bs (iH os ws bs xs xs.length)) (.row 1 (cV (vZ ws.length (q+1)) 1 (λc=>(og r os bs (iH os ws bs xs xs.length) c).length) ws.length));(conv=>whnf);exact⟨rfl,rfl,rfl,rfl,rfl,rfl,rfl⟩;exact rfl;exact rfl;exact rfl;(repeat first|exact jo.here|refine jo.cons ?_ rfl);exact K;exact .inr aa;exact xK _ _;exact rfl;exact(λ_ _=>rfl);exact(λf R=>kn (λ_ _=>rfl) R);exact⟨_,[_,_],⟨q+1,_,_,_,aa,rfl,by rw[bF aa aa];rfl,rfl,aL.aM (xs:=M) rfl _,by rw[A];exact(abI ai).symm,rfl⟩,rfl,rfl,aa⟩)|(have ho0:v≠1:=ai;have adF:(iH os ws bs xs (j+1))=(iH os ws bs xs j):=OR (by rw[<-B];exact ho0);have hk9:k=cJ:=(by rw[Z,aeH S (by rw[<-B];exact ho0)]);clear Z;subst hk9;apply gf [18,15,5,9,13,62,63,64] ws.length cJ (uh os ws bs xs (j+1)) lit 1 (og r os bs (iH os ws bs xs j)) (og r os bs (iH os ws bs xs (j+1))) (.row 1 (cV (uh os ws bs xs (j+1)) 1 (λc=>(og r os bs (iH os ws bs xs (j+1)) c).length) ws.length));(conv=>whnf);exact⟨rfl,rfl,rfl,rfl,rfl,rfl,rfl⟩;exact rfl;exact rfl;exact rfl;(repeat first|exact jo.here|refine jo.cons ?_ rfl);exact K;exact .inl rfl;exact Ib hx _;(rw[adF];rfl);(intro c _;rw[adF]);(intro f R;rw[adF];exact kn (λ_ _=>rfl) R);exact⟨_,[_],⟨j+1,_,_,aa,rfl,by rw[bF aa aa];rfl,rfl,Du _,rfl,by rw[adF];exact ham⟩,rfl,rfl,aa⟩)|(have hj9:xs.length<=j:=aa;have PI:(iH os ws bs xs j)=(iH os ws bs xs xs.length):=(by rw[show j=xs.length by omega]);have hk9:k=cJ:=(by rw[Z,Wv hj9]);clear Z;subst hk9;rw[PI]at ham;apply Je [106,9,23,107,108] [23,108] (RQy r l ws.length (og r os bs (iH os ws bs xs xs.length)) (BD r l os bs (iH os ws bs xs xs.length))) ws.length [bD 2000012 3 0,iV .i64 0] ws.length cJ (vZ ws.length 0) lit 1 (og r os bs (iH os ws bs xs j)) (og r os bs (iH os ws bs xs xs.length)) (.row 1 (cV (vZ ws.length 0) 1 (λc=>(og r os bs (iH os ws bs xs xs.length) c).length) ws.length)) (eo.dQ 23 3 rfl);(conv=>whnf);exact⟨rfl,rfl,rfl,rfl,rfl,rfl,rfl⟩;exact rfl;exact rfl;exact rfl;exact rfl;(repeat first|exact jo.here|refine jo.cons ?_ rfl);exact K;exact .inl rfl;exact xK _ _;(rw[PI];rfl);(intro c _;rw[PI]);(intro f R;rw[PI];exact kn (λ_ _=>rfl) R);exact⟨0,_,[],_,aa,rfl,rfl,rfl,aL.aM aL.nil _,rfl,rfl⟩;rintro _ _ _ ⟨q,f,M,UI,d,rfl,rfl,R,hrP,A,rfl⟩;cases hrP)|(have F:=hE0;clear F;have hio:=(show i=bs.length by omega);subst hio;apply Je [18,15,5,9,13,62,63,64] [64] (RPy (stC x Y L ps us O os) r l os ws bs xs) xs.length [iV .i64 0] ws.length cJ (uh os ws bs xs 0) lit 1 (λ_=>[]) (og r os bs (iH os ws bs xs 0)) (.row 1 (cV (uh os ws bs xs 0) 1 (λc=>(og r os bs (iH os ws bs xs 0) c).length) ws.length)) (Z4 [18,15,5,9,13,62,63,64] ?hB1 ?hR1 K);(case hB1=>((conv=>whnf);exact⟨rfl,rfl,rfl,rfl,rfl,rfl⟩));(case hR1=>exact aL.aM (aL.replicate _ [dw]) _);(conv=>whnf);exact⟨rfl,rfl,rfl,rfl,rfl,rfl,rfl⟩;exact rfl;exact rfl;exact rfl;exact rfl;(repeat first|exact jo.here|refine jo.cons ?_ rfl);exact K;exact .inl rfl;exact Ib hx _;(rw[am0];rfl);(intro c _;rw[am0]);(intro f R;rw[am0];exact kn (λ_ _=>rfl) R);exact⟨0,_,_,aa,rfl,rfl,rfl,(agV _ _),rfl,λe H=>by simp[iH]at H⟩;rintro _ _ _ ⟨j,k,J,Q,rfl,rfl,Z,rfl,rfl,ham⟩)|(refine iJ (acN rfl rfl) (L4 (og r os bs (iH os ws bs xs xs.length) q) (NN ham q) p0) ?_ ?_;(rintro _ ⟨n,rfl,_⟩;rfl);rintro _ ⟨n9,rfl,Kn⟩)|refine N7 rfl rfl rfl Tryz.underlying121 (iu Tryz.underlying3) hJ2.tk hidx (VK hidx V9) ?_|(have xD:f=q:=(by rw[R];exact if_pos aa);clear R;subst f;refine Gn ?_ ?_ ?_;omega;omega)|(refine Gn ?_ ?_ ?_;omega;omega)|refine LY rfl (qR K) ?_|refine Gs ?_|exact eL rfl (dy 3 rfl) (cv rfl) (Nd aa (λh=>by have:=H.2 h.tf;omega))|exact eL rfl (dy 3 rfl) (cv rfl) (Nd aa (λh=>by have:=h.jg;omega))|exact eL rfl (dy 3 rfl) (cv rfl) (Nd aa (λh=>by have:=he1.2 (atF uS (h.am _ (apG S af9)));omega))|exact eL rfl (df rfl rfl (xs:=M) rfl aa) (cv rfl) ⟨_,_,rfl,iff_of_true rfl ⟨H.1 aa,hE0,ham⟩,λ_=>by rw[cD rfl,A,show q=ws.length by omega],λh=>absurd rfl h⟩|(apply gh [2,3,5,9,13,15,44,45,46] [] [46] (RC0 (stC x Y L ps us O os) r l bs) (bs.length) [iV .i64 0];(iterate 3 exact ae);exact⟨0,_,aa,rfl,rfl,rfl,rfl⟩;rintro _ _ _ ⟨i,J,I,rfl,rfl,rfl,rfl⟩)|(refine aI [2,3,5,9,13,15,44,45,46] [] ?_;(conv=>whnf);exact⟨rfl,_,[_],⟨i+1,_,aa,rfl,by rw[bF aa aa];rfl,agW _ hs1,rfl⟩,rfl,rfl,aa⟩))
end Go.aW.Cd
namespace Go.aW.Cd
open Go Go.Proofs
abbrev alL(ps v:Lz):Prop:= ∀e,e∈v->aiM e/\atV ps.length e
def JB(s:ByteArray)(w L ps us v J:Lz)(k:Int):Tg 176 [dV s w L ps us v J,oI k] (GBt (0<=k/\k < (L.length:Int))):=by
 refine aC Tryz.func176 ?_
 repeat' ((conv=>whnf);first|refine aJ (λh=>?_) (λh=>?_)|(refine Wn rfl rfl ?_;first|(intro d;exact⟨aa,of_decide_eq_true d⟩)|(intro R;simp at R)))
abbrev auR(ps:Lz)(a b:Int):Prop:=(0<=a/\a < (ps.length:Int))/\0<=b/\b < ((nL 1 ((ps[a.toNat]?).getD [])).length:Int)
variable{ps es j cs F:Lz}{g d:T}
def agC{a b:Int}{nm:T}(h:ps[a.toNat]? =some (Tp nm es g j cs F d))(z:0<=a)(O:a < (ps.length:Int))(Y:0<=b)(B:b < (es.length:Int)):auR ps a b:=by
 refine⟨⟨z,O⟩,Y,?_⟩;rw[h];exact B
def P5{a b:Int}{nm:T}(S:ps[a.toNat]? =some (Tp nm es g j cs F d))(h:auR ps a b):0<=b/\b < (es.length:Int):=by
 obtain⟨_,Y,B⟩:=h;rw[S]at B;exact⟨Y,B⟩
def z7(s:ByteArray)(w L ps us v J:Lz)(hp:∀e,e∈ps->Ta e)(a b:Int):Tg 177 [dV s w L ps us v J,oI a,oI b] (GBt (auR ps a b)):=by
 refine aC Tryz.func177 ?_
 repeat' ((conv=>whnf);first|refine aJ (λh=>?_) (λh=>?_)|(refine aG (xs:=ps) hp aa aa ?_;rintro _ ⟨nm,B,g,j,U,F,n,rfl,A,⟨H,r⟩,⟨K,_⟩,⟨D,y⟩,M,O⟩ S)|(refine Wn rfl rfl ?_;first|(intro d;have:=of_decide_eq_true d;exact agC S aa aa aa aa)|(intro R;simp at R)))
def zZ(nm:T)(es:Lz)(g:T)(j cs F:Lz)(d:T)(w:kz es)(r:es.length<=maxLen)(D:cO cs)(y:cs.length<=maxLen)(m b:Int)(N:0<=b)(R:b < (es.length:Int)): ∃ts,Fn Tryz.prog 178 [YO nm es g j cs F d,oI m,oI b] [] (aR ts) []/\(aR ts).cR=true/\(λts=> ∃n e,ts=[oI n,oI e]) ts:=by
 refine aS ?_;refine aC Tryz.func178 ?_
 repeat' ((conv=>whnf);first|refine bG (λh=>?_) (λh=>?_)|(refine aG (J aa).1.2.1 aa VZ ?_;rintro _ ⟨z,P,rfl,x,H,s⟩ O)|(refine aD rfl (gP nm es g j cs F d m w r D y) ?_;rintro _ ⟨c,e,rfl,J⟩)|(refine aD rfl (ia P H) ?_;rintro _ ⟨l,o,rfl,_⟩)|exact eL rfl (cv rfl) (cv rfl) ⟨_,_,rfl⟩)
def wS(s:ByteArray)(w L ps us v J:Lz)(l:eu s w L ps us v J)(z k:Int): ∃ts,Fn Tryz.prog 127 [dV s w L ps us v J,oI z,oI k] [] (aR ts) []/\(aR ts).cR=true/\(λts=> ∃a b e,ts=[oI a,oI b,oI e]) ts:=by
 refine aS ?_;refine aC Tryz.func127 ?_
 repeat' ((conv=>whnf);first|refine bZz (λh=>?_) (λh=>?_)|(refine aG (xs:=v) l.hss aa aa ?_;rintro _ ⟨pa,P,pb,c,q,f,rfl⟩ S)|(have hE1:=Z (dM ai);refine aG (xs:=ps) (n:=pa) l.hps aa aa ?_;rintro _ ⟨nm,B,g,j,R,F,d,rfl,hnm,⟨H,r⟩,⟨K,_⟩,⟨D,y⟩,M,A⟩ Y;have hE3:=P5 Y hE1)|(have hE2:=o (dM ai);refine aG (xs:=ps) (n:=pb) l.hps aa aa ?_;rintro _ ⟨nm2,Y7,g2,Hs,cs2,ws2,mt2,rfl,aqI,⟨M0,U⟩,⟨Ba,_⟩,⟨M4,arD⟩,hw2,aI0⟩ O;have hE4:=P5 O hE2)|(have x:=hbz (dM ai);refine aG (xs:=L) l.Sf aa aa ?_;rintro _ ⟨mu,rfl⟩ uS)|refine And.intro ag ?_|(refine aD rfl (JB s w L ps us v J z) ?_;rintro _ ⟨bz,rfl,hbz⟩)|(refine aD rfl (z7 s w L ps us v J l.hps pa P) ?_;rintro _ ⟨I,rfl,Z⟩)|(refine aD rfl (z7 s w L ps us v J l.hps pb c) ?_;rintro _ ⟨Q,rfl,o⟩)|(refine aN rfl (zZ (.val (.string nm2)) Y7 (tI g2) Hs cs2 ws2 (tB mt2) M0 U M4 arD _ c hE4.1 hE4.2) ?_;rintro _ ⟨n4,N,rfl⟩)|(refine aN rfl (zZ (.val (.string nm)) B (tI g) j R F (tB d) H r D y _ P hE3.1 hE3.2) ?_;rintro _ ⟨n3,G,rfl⟩)|exact H9 rfl (cv rfl) (cv rfl) (cv rfl) ⟨_,_,_,rfl⟩)
def abO(nm:T)(es:Lz)(g:T)(j cs F:Lz)(d:T)(m:Int)(H:kz es)(r:es.length<=maxLen)(K:cO j)(D:cO cs)(y:cs.length<=maxLen): ∃ts,Fn Tryz.prog 214 [YO nm es g j cs F d,oI m] [] (aR ts) []/\(aR ts).cR=true/\(λts=> ∃xs ys e,ts=[oL 1 xs,oL 2 ys,oI e]/\(e=0->(Is xs/\xs.length=j.length)/\j.length<=16)) ts:=by
 refine aS ?_;refine aC Tryz.func214 ?_
 repeat' ((conv=>whnf);first|refine bZz (λh=>?_) (λh=>?_)|(refine aG K aa aa ?_;rintro _ ⟨a,b,rfl⟩ S)|(refine aG H aa aa ?_;rintro _ ⟨n,L,rfl,Z,Q,R⟩ Y)|(refine aG (J aa).1.2.1 aa VZ ?_;rintro _ ⟨w,P,rfl,x,B,s⟩ O)|refine And.intro ⟨by simp[tr],by simp[tr,bh];omega,by simp[tr,maxLen];omega⟩ ?_|(refine aD rfl (gP nm es g j cs F d m H r D y) ?_;rintro _ ⟨c,e,rfl,J⟩)|(refine aD rfl (ia L Q) ?_;rintro _ ⟨U,l,rfl,_⟩)|(refine aD rfl (ia P B) ?_;rintro _ ⟨N,o,rfl,_⟩)|(refine aD rfl (qL _ _ _ _) ?_;rintro _ ⟨z,G,rfl⟩)|exact H9 rfl (dy 1 rfl) (dy 2 rfl) (cv rfl) ⟨_,_,_,rfl,λh=>absurd h aa⟩|exact H9 rfl (df rfl rfl (xs:=M) rfl aa) (cv rfl) (cv rfl) ⟨_,_,_,rfl,λ_=>by rw[cD rfl];exact⟨⟨v,aa⟩,aa⟩⟩|(apply cL [2,7,9,30,31,32] [] [9,32] [(4,7),(8,1)] (RPl (Tp nm es g j cs F d) j.length) (j.length) [bD 8 1 0,iV .i64 0] (eo.dQ 9 1 rfl);(iterate 3 exact ae);exact .cons (aL.aM (xs:=[Tp nm es g j cs F d]) rfl _) (.cons (aL.aM aL.nil _) .nil);exact⟨0,[],aa,rfl,rfl,rfl,rfl,λe H=>by simp at H⟩;rintro _ _ _ ⟨i,M,I,rfl,rfl,rfl,A,v⟩)|(refine aI [2,7,9,30,31,32] [] ?_;(conv=>whnf);exact⟨rfl,_,[_,_],_,.cons (aL.aM (xs:=[Tp nm es g j cs F d]) rfl _) (.cons (aL.aM (aL.snoc (xs:=M) rfl [tI _]) _) .nil),RPl.next aa aa A v iC,rfl,rfl,aa⟩))
def QS(nm:T)(es:Lz)(g:T)(j cs F:Lz)(d:T)(m:Int)(H:kz es)(r:es.length<=maxLen)(K:cO j)(D:cO cs)(y:cs.length<=maxLen): ∃ts,Fn Tryz.prog 160 [YO nm es g j cs F d,oI m] [] (aR ts) []/\(aR ts).cR=true/\(λts=> ∃xs e,ts=[oL 1 xs,oI e]/\(e=0->(Is xs/\xs.length=j.length)/\j.length<=16)) ts:=by
 refine aS ?_;refine aC Tryz.func160 ?_
 repeat' ((conv=>whnf);first|(refine aD rfl (abO nm es g j cs F d m H r K D y) ?_;rintro _ ⟨xs,Y,e,rfl,N⟩)|exact eL rfl (cv rfl) (cv rfl) ⟨_,_,rfl,N⟩)
abbrev oSd(j xs:Lz)(Y ln:Int):W:= .agg [.t (.aO 2 j),.t (.aO 1 xs),.t (tI Y),.t (tI ln)]
def Ur(j xs:Lz)(Y ln p:Int)(K:cO j)(o:j.length<=maxLen)(hx:Is xs)(U:xs.length=j.length):Tg 228 [oSd j xs Y ln,oI p] GB:=by
 refine aC Tryz.func228 ?_
 repeat' ((conv=>whnf);first|refine aJ (λh=>?_) (λh=>?_)|(refine aG (xs:=j) K aa aa ?_;rintro _ ⟨a,b,rfl⟩ S)|(refine aG (xs:=xs) hx aa aa ?_;rintro _ ⟨v,rfl⟩ O)|refine And.intro ag ?_|exact gB rfl rfl|(apply aV [1,2,8,9,10] [] [10] (RI j.length) (j.length) [iV .i64 0];(iterate 3 exact ae);exact RI.zero;rintro _ _ ⟨i,I,rfl,rfl⟩)|(refine aI [1,2,8,9,10] [] ?_;(conv=>whnf);exact⟨rfl,_,[_],RI.succ (N:=j.length) (i:=i) aa o,rfl,rfl,rfl,aa⟩))
abbrev OG(j xs:Lz)(Y ln:Int):Lt:=[.aO 2 j,.aO 1 xs,tI Y,tI ln]
def RAl(N:Nat)(b a:Lt)(m:Nat)(vs:List V)(w:List (Lz)):Prop:= ∃ (i:Nat) (M:Lz),i<=N/\m=N - i/\vs=[bD 12 1 M.length,iV .i64 (i:Int)]/\w=[[b],[a],M]/\Is M/\M.length<=i
def Ad(j xs:Lz)(Y ln:Int)(K:cO j)(o:j.length<=100000)(hx:Is xs)(U:xs.length=j.length)(l P:Lz)(d g:Int)(w:cO l)(r:l.length<=maxLen)(c:Is P)(s:P.length=l.length)(x:Bool):Tg 179 [oSd j xs Y ln,oSd l P d g,oB x] (GL 1 (λzs=>Is zs/\zs.length<=j.length)):=by
 refine aS ?_;refine aC Tryz.func179 ?_
 repeat' ((conv=>whnf);first|refine bZz (λh=>?_) (λh=>?_)|(refine aG (xs:=j) K aa aa ?_;rintro _ ⟨a,b,rfl⟩ S)|(refine aG (xs:=xs) hx aa aa ?_;rintro _ ⟨v,rfl⟩ O)|refine And.intro ⟨by simp[tr],by simp[tr,bh];omega,by simp[tr,maxLen];omega⟩ ?_|refine And.intro ag ?_|(refine aN rfl (qL _ _ _ _) ?_;rintro _ ⟨z,G,rfl⟩)|(refine aD rfl (Ur l P d g _ w r c s) ?_;rintro _ ⟨n,rfl⟩)|exact nt rfl (df rfl rfl (xs:=zs) rfl aa) ⟨_,rfl,by rw[cD rfl];exact⟨A,aa⟩⟩|(apply cL [2,3,4,7,13,14,15] [] [7,15] [(4,4),(8,4),(12,1)] (RAl j.length (OG j xs Y ln) (OG l P d g)) (j.length) [bD 12 1 0,iV .i64 0] (eo.dQ 7 1 rfl);(iterate 3 exact ae);exact .cons (aL.aM (xs:=[OG j xs Y ln]) rfl _) (.cons (aL.aM (xs:=[OG l P d g]) rfl _) (.cons (aL.aM aL.nil _) .nil));exact⟨0,[],aa,rfl,rfl,rfl,(λe H=>by simp at H),ak⟩;rintro _ _ _ ⟨i,zs,I,rfl,rfl,rfl,A,N⟩)|(refine aI [2,3,4,7,13,14,15] [] ?_;(conv=>whnf);first|exact⟨rfl,_,[_,_],_,.cons (aL.aM (xs:=[OG j xs Y ln]) rfl _) (.cons (aL.aM (xs:=[OG l P d g]) rfl _) (.cons (aL.aM (aL.snoc (xs:=zs) rfl [tI _]) _) .nil)),⟨i+1,_,aa,rfl,by rw[bF aa aa];simp[tr],rfl,A.snoc _,by simp;omega⟩,rfl,rfl,aa⟩|exact⟨rfl,_,[_,_],_,.cons (aL.aM (xs:=[OG j xs Y ln]) rfl _) (.cons (aL.aM (xs:=[OG l P d g]) rfl _) (.cons (aL.aM (xs:=zs) rfl _) .nil)),⟨i+1,_,aa,rfl,by rw[bF aa aa];rfl,rfl,A,aa⟩,rfl,rfl,aa⟩))
def RUt(N:Nat)(row:Lt)(m:Nat)(vs:List V)(w:List (Lz)):Prop:= ∃ (i:Nat) (M:Lz),i<=N/\m=N - i/\vs=[bD 8 3 M.length,iV .i64 (i:Int)]/\w=[[row],M]/\I3 M/\M.length<=i * 40
def RUi(N B:Nat)(row:Lt)(z:List (Lz))(m:Nat)(vs:List V)(w:List (Lz)):Prop:= ∃ (j:Nat) (M:Lz),j<=N/\m=N - j/\vs=[bD 8 3 M.length,iV .i64 (j:Int)]/\w=[row]::M::z/\I3 M/\M.length<=B+j
def AQ(s:ByteArray)(w L ps us v J:Lz)(G:eu s w L ps us v J)(Sb:v.length<=24)(hsm:alL ps v)(z:Int): ∃ts,Fn Tryz.prog 128 [dV s w L ps us v J,oI z] [] (aR ts) []/\(aR ts).cR=true/\(λts=> ∃zs e,ts=[oL 3 zs,oI e]) ts:=by
 refine aS ?_;refine aC Tryz.func128 ?_
 repeat' ((conv=>whnf);first|refine bZz (λh=>?_) (λh=>?_)|(refine aG (xs:=v) hsm aa aa ?_;rintro _ ⟨⟨pa,b,pb,c,q,f,rfl⟩,⟨MS,Se⟩,MR,Sd⟩ S;replace MS:0<=pa:=MS;replace Se:pa < (ps.length:Int):=Se;replace MR:0<=pb:=MR;replace Sd:pb < (ps.length:Int):=Sd;obtain⟨e8,he8⟩: ∃e,ps[pa.toNat]? =some e:=⟨ps[pa.toNat]' aa,ak⟩;obtain⟨nm,B,g,j,R,F,d,rfl,hnm,⟨H,r⟩,⟨K,_⟩,⟨D,y⟩,a,O⟩:=G.hps _ (oo he8);obtain⟨e9,he9⟩: ∃e,ps[pb.toNat]? =some e:=⟨ps[pb.toNat]' aa,ak⟩;obtain⟨nm2,Y7,g2,Hs,cs2,ws2,mt2,rfl,aqI,⟨aKe,x⟩,⟨Ba,_⟩,⟨M4,arD⟩,hw2,aI0⟩:=G.hps _ (oo he9))|refine⟨MS,_,he8,?_⟩|refine⟨MR,_,he9,?_⟩|(refine aG (xs:=L) G.Sf aa aa ?_;rintro _ ⟨mu,rfl⟩ U)|(refine aG (xs:=q1) hq1 aa aa ?_;rintro _ ⟨Z,rfl⟩ Sc)|(refine aG (xs:=q2) Ty aa aa ?_;rintro _ ⟨v2,rfl⟩ Tw)|refine And.intro ⟨by simp[tr],by simp[tr,bh];omega,by simp[tr,maxLen];omega⟩ ?_|refine And.intro ag ?_|(refine aD rfl (wS s w L ps us v J G _ _) ?_;rintro _ ⟨la,lb,P,rfl⟩)|(refine aN rfl (QS (.val (.string nm)) B (tI g) j R F (tB d) _ H r K D y) ?_;rintro _ ⟨x1,l,rfl,vQ⟩)|(refine aN rfl (QS (.val (.string nm2)) Y7 (tI g2) Hs cs2 ws2 (tB mt2) _ aKe x Ba M4 arD) ?_;rintro _ ⟨Q,o,rfl,MO⟩)|(obtain⟨⟨hX1,hX2⟩,hX3⟩:=vQ aa;obtain⟨⟨hX4,hX5⟩,hX6⟩:=MO aa;refine aD rfl (Ad j x1 b la K aa hX1 hX2 Hs Q c lb Ba bq hX4 hX5 q) ?_;rintro _ ⟨q1,rfl,hq1,aQB⟩)|(obtain⟨⟨hX1,hX2⟩,hX3⟩:=vQ aa;obtain⟨⟨hX4,hX5⟩,hX6⟩:=MO aa;refine aD rfl (Ad Hs Q c lb Ba aa hX4 hX5 j x1 b la K bq hX1 hX2 q) ?_;rintro _ ⟨q2,rfl,Ty,aQA⟩)|exact eL rfl (dy 3 rfl) (cv rfl) ⟨_,_,rfl⟩|exact eL rfl (df rfl rfl (xs:=zs) rfl aa) (cv rfl) ⟨_,_,rfl⟩|(have Y:=hj1;clear Y;apply bp [1,2,6,7,28,29,30,127,128,129] [] [6,129] [(4,7),(8,3)] (RUi q2.length (i * 40+16) [.val (.string s),.aO 1 w,.aO 1 L,.aO 7 ps,.aO 3 us,.aO 6 v,.aO 5 J] []) (q2.length) [bD 8 3 y1.length,iV .i64 0];(iterate 3 exact ae);exact .cons (aL.aM (xs:=[[.val (.string s),.aO 1 w,.aO 1 L,.aO 7 ps,.aO 3 us,.aO 6 v,.aO 5 J]]) rfl _) (.cons (aL.aM (xs:=y1) rfl _) .nil);exact⟨0,y1,aa,rfl,rfl,rfl,n,aa⟩;rintro _ _ _ ⟨j2,M,hj2,rfl,rfl,rfl,R7,aQb⟩)|(have Y:=hj2;clear Y;refine aI [1,2,6,7,28,29,30,127,128,129] [] ?_;(conv=>whnf);exact⟨rfl,_,[_,_],_,.cons (aL.aM (xs:=[[.val (.string s),.aO 1 w,.aO 1 L,.aO 7 ps,.aO 3 us,.aO 6 v,.aO 5 J]]) rfl _) (.cons (aL.aM (aL.snoc (xs:=M) rfl [tI _,tI _,tI _]) _) .nil),⟨j2+1,_,aa,rfl,by rw[bF aa aa];simp[tr],rfl,R7.snoc _ _ _,by simp;omega⟩,rfl,rfl,aa⟩)|(have Y:=S;clear Y;apply bp [1,2,6,7,8,12,13,28,29,30,110,111,112] [] [6,112] [(4,7),(8,3),(12,6),(16,4),(20,4)] (RUi q1.length (i * 40) [.val (.string s),.aO 1 w,.aO 1 L,.aO 7 ps,.aO 3 us,.aO 6 v,.aO 5 J] [[[tI pa,tI b,tI pb,tI c,tB q,tI f]],[OG j x1 b la],[OG Hs Q c lb]]) (q1.length) [bD 8 3 zs.length,iV .i64 0];(iterate 3 exact ae);exact .cons (aL.aM (xs:=[[.val (.string s),.aO 1 w,.aO 1 L,.aO 7 ps,.aO 3 us,.aO 6 v,.aO 5 J]]) rfl _) (.cons (aL.aM (xs:=zs) rfl _) (.cons (aL.aM (xs:=[[tI pa,tI b,tI pb,tI c,tB q,tI f]]) rfl _) (.cons (aL.aM (xs:=[OG j x1 b la]) rfl _) (.cons (aL.aM (xs:=[OG Hs Q c lb]) rfl _) .nil))));exact⟨0,zs,aa,rfl,rfl,rfl,A,aa⟩;rintro _ _ _ ⟨j1,y1,hj1,rfl,rfl,rfl,n,aQc⟩)|(have Y:=hj1;clear Y;refine aI [1,2,6,7,8,12,13,28,29,30,110,111,112] [] ?_;(conv=>whnf);exact⟨rfl,_,[_,_],_,.cons (aL.aM (xs:=[[.val (.string s),.aO 1 w,.aO 1 L,.aO 7 ps,.aO 3 us,.aO 6 v,.aO 5 J]]) rfl _) (.cons (aL.aM (aL.snoc (xs:=y1) rfl [tI _,tI _,tI _]) _) (.cons (aL.aM (xs:=[[tI pa,tI b,tI pb,tI c,tB q,tI f]]) rfl _) (.cons (aL.aM (xs:=[OG j x1 b la]) rfl _) (.cons (aL.aM (xs:=[OG Hs Q c lb]) rfl _) .nil)))),⟨j1+1,_,aa,rfl,by rw[bF aa aa];simp[tr],rfl,n.snoc _ _ _,by simp;omega⟩,rfl,rfl,aa⟩)|(apply cL [1,2,6,28,29,30] [] [6,30] [(4,7),(8,3)] (RUt v.length [.val (.string s),.aO 1 w,.aO 1 L,.aO 7 ps,.aO 3 us,.aO 6 v,.aO 5 J]) (v.length) [bD 8 3 0,iV .i64 0] (eo.dQ 6 3 rfl);(iterate 3 exact ae);exact .cons (aL.aM (xs:=[[.val (.string s),.aO 1 w,.aO 1 L,.aO 7 ps,.aO 3 us,.aO 6 v,.aO 5 J]]) rfl _) (.cons (aL.aM aL.nil _) .nil);exact⟨0,[],aa,rfl,rfl,rfl,I3.nil,ak⟩;rintro _ _ _ ⟨i,zs,I,rfl,rfl,rfl,A,N⟩)|(refine aI [1,2,6,28,29,30] [] ?_;(conv=>whnf);exact⟨rfl,_,[_,_],_,.cons (aL.aM (xs:=[[.val (.string s),.aO 1 w,.aO 1 L,.aO 7 ps,.aO 3 us,.aO 6 v,.aO 5 J]]) rfl _) (.cons (aL.aM (xs:=M) rfl _) .nil),⟨i+1,_,aa,rfl,by rw[bF aa aa];rfl,rfl,R7,aa⟩,rfl,rfl,aa⟩))
end Go.aW.Cd
namespace Go.aW
open Go
variable{P:Program}{M A:agt}{ρ:Env}{F:agt}{st:St}{a:Act}{w:World}
def eo.aA2{tm:TS}{hp:HS}{ctr szr:Nat}{xs:Lq}{e:Lc}(tZ i0 j sz:Nat)(R:find hp tZ=some (.row szr xs))(hi0:xs[i0]? =some e)(Q:e[j]? =some (.t dw)):
 eo tm hp ctr tm ((ctr,.row sz [])::jB hp tZ (.row szr (xs.set i0 (e.set j (.own ctr sz 0 0))))) (ctr+4):=by
 intro M A ρ n a w J;have hfr:ρ ctr=none:=J.fresh ctr (ww _);have cI:dD ρ (dr ρ ctr .dQ):=dD.jB hfr;have P:∀ {id:Nat},id≠ctr->dr ρ ctr .dQ id=ρ id:=λD=>by simp[dr,D]
 refine⟨A,dr ρ ctr .dQ,⟨J.size,J.defers,λu v l=>(J.tmps u v l).keeps (dS.refl _ _) (λ_ _=>rfl) cI,λid o G=>?_,λid id' o gU b O Y y U=>?_,λid D=>?_,J.bound,J.may,J.dR⟩,cI.T6,fZ.refl M A w⟩
 . simp only[aF]at G;split at G
   . rename_i Z;subst Z;simp only[ii]at G;subst G;exact⟨ak,.inr ⟨by simp[dr],rfl⟩⟩
   . simp only[bO]at G;split at G
     . rename_i Z;subst Z;rw[R]at G;simp only[wv,ii]at G;subst G;have z:=(J.heap _ _ R).keeps (dS.refl _ _) (λ_ _=>rfl) cI (λ_ h=>h) (λ_ _=>rfl);obtain⟨O,Y⟩:=z;refine⟨λr hel=>?_,?_⟩
       . rcases aao hel with hel|rfl
         . exact O r hel
         . rw[abn];exact O e (oo hi0)
       . rcases Y with⟨b,c,t,s,L,H,S,k5,k6⟩|⟨_,B⟩
         . refine .inl ⟨b,c,t,s,L,H,S,C1,λi r jj q I d=>?_⟩
           by_cases Si:i0=i
           . subst Si;rw[aaj (jl.1 hi0).1,ii]at I;subst I
             by_cases Tz:j=jj
             . subst Tz;have F:=(jl.1 Q).1;rw[aaj F,ii]at d;subst d;obtain⟨x,N,hrc,hcell⟩:=k6 i0 e j _ hi0 Q;refine⟨x,N,?_,hcell⟩;have hrt:RT w A dw x:=hrc;cases hrt;exact .inr ⟨by simp[dr],rfl,rfl,rfl⟩
             . rw[aam Tz]at d;exact k6 i0 e jj q hi0 d
           . rw[aam Si]at I;exact k6 i r jj q I d
         . rw[B]at hi0;simp at hi0
     . exact(J.heap id o G).keeps (dS.refl _ _) (λ_ _=>rfl) cI (λ_ h=>h) (λ_ _=>rfl)
 . have old:∀ {q:Nat} {bl:bE},find ((ctr,bE.row sz [])::jB hp tZ (.row szr (xs.set i0 (e.set j (.own ctr sz 0 0))))) q=some bl->q≠ctr-> ∃AB,find hp q=some AB:=by
    intro q bl d hqc;simp only[aF]at d;rw[if_neg (λe=>hqc e.symm)]at d;simp only[bO]at d;split at d
    . rename_i Z;subst Z;exact⟨_,R⟩
    . exact⟨_,d⟩
   have n1:id≠ctr:=by intro e;subst e;simp[dr]at y
   have n2:id'≠ctr:=by intro e;subst e;simp[dr]at U
   obtain⟨g,g1⟩:=old O n1;obtain⟨K,g2⟩:=old Y n2;rw[P n1]at y;rw[P n2]at U;exact J.inj id id' g K b g1 g2 y U
 . simp only[bJ]at D;rw[P aa];exact J.fresh id V2
end Go.aW
namespace Go.aW
open Go
variable{P:Program}{M A:agt}{ρ:Env}{F:agt}{st:St}{a:Act}{w:World}
variable{ctr szr sz id:Nat}{e:Lc}{rows:Lq}{ys xs:Lz}{us:Lw}
def Rel.Wr{n:Nat}{tm:TS}{hp:HS}{len:Nat}{xs:Lq}(tZ i0 j id:Nat)(R:find hp tZ=some (.row szr xs))(hi0:xs[i0]? =some e)(Q:e[j]? =some (.own id sz 0 len))(F:find hp id=some (.row sz rows))(v:aL rows ys)(U:len<=ys.length)(hne:tZ≠id)(J:Rel M A ρ (bJ ctr) ⟨n,tm,hp⟩ a w):
 Rel M (λb=>A b/\ρ id≠some (.gD b)) ρ (bJ ctr) ⟨n,tm,del (jB hp tZ (.row szr (xs.set i0 (e.set j (.t (.aO sz (ys.take len))))))) id⟩ a w:=by
 have z:=Rel.forget J (st':=⟨n,tm,[(id,.row sz rows)]⟩) rfl (λ_ _ h=>h) (λk b G=>by
  simp only[aF]at G;split at G
  . rename_i e';subst e';rw[<-G];exact F
  . simp[find]at G)
 let B:Nat->Prop:=λb=>A b/\ρ id≠some (.gD b)
 have hfz:cA 6 [(id,bE.row sz rows)] (.own id sz 0 len)=some (.aO sz (ys.take len)):=by
  have h:=kO (hp:=[(id,bE.row sz rows)]) (id:=id) (sz:=sz) (rows:=rows) (i:=0) (len:=len) agn v aa;simp only[bM,jU]at h;obtain⟨t,O,Y⟩:=h;injection Y with Y;injection Y with Y;rw[O,Y];simp
 have S:Rel M B ρ (bJ ctr) ⟨n,tm,del hp id⟩ a w:=Rel.shrink (hp:=del hp id) J (λb G=>G.1) (λk b Z=>by
  rw[dG]at Z;split at Z
  . simp at Z
  . exact Z) (λk P b Z hρ=>by
  rw[dG]at Z;split at Z
  . simp at Z
  . rename_i Ba;refine⟨(HX (J.heap k P Z) hρ).1,λY=>?_⟩;exact Ba (J.inj k id P _ b Z F hρ Y))
 refine⟨S.size,S.defers,S.tmps,λEt P G=>?_,λid1 Et b1 b2 b O Y y K=>?_,S.fresh,S.bound,S.may,S.dR⟩
 . simp only[dG,bO]at G;split at G
   . simp at G
   . rename_i Ba;split at G
     . rename_i e';subst e';rw[R]at G;simp only[wv,ii]at G;subst G;have g:=S.heap _ (.row szr xs) (by rw[dG,if_neg (by first|exact Ba|exact hne|exact λh=>hne h.symm)];exact R);obtain⟨O,Y⟩:=g;refine⟨λr hel=>?_,?_⟩
       . rcases aao hel with hel|rfl
         . exact O r hel
         . rw[abn];exact O e (oo hi0)
       . rcases Y with⟨b,c,t,s,L,H,k4,k5,k6⟩|⟨_,D⟩
         . refine .inl ⟨b,c,t,s,L,H,k4,C1,λi r jj q I d=>?_⟩
           by_cases Si:i0=i
           . subst Si;rw[aaj (jl.1 hi0).1,ii]at I;subst I
             by_cases Tz:j=jj
             . subst Tz;have l:=(jl.1 Q).1;rw[aaj l,ii]at d;subst d;obtain⟨x,N,hrc,hcell⟩:=k6 i0 e j _ hi0 Q;refine⟨x,N,?_,hcell⟩
               exact qt z (B:=B) (λb G=>G.1) (λk P b Z hρ o=>by
                simp only[aF]at Z;split at Z
                . rename_i e';subst e';exact o.2 hρ
                . simp[find]at Z) hfz (show RC w A ρ (.own id sz 0 len) x from hrc)
             . rw[aam Tz]at d;exact k6 i0 e jj q hi0 d
           . rw[aam Si]at I;exact k6 i r jj q I d
         . rw[D]at hi0;simp at hi0
     . exact S.heap Et P (by rw[dG,if_neg Ba];exact G)
 . have old:∀ {q:Nat} {bl:bE},find (del (jB hp tZ (.row szr (xs.set i0 (e.set j (.t (.aO sz (ys.take len))))))) id) q=some bl-> ∃AB,find hp q=some AB:=by
    intro q bl d;simp only[dG,bO]at d;split at d
    . simp at d
    . split at d
      . rename_i e';subst e';exact⟨_,R⟩
      . exact⟨_,d⟩
   obtain⟨c1,g1⟩:=old O;obtain⟨c2,g2⟩:=old Y;exact J.inj id1 Et c1 c2 b g1 g2 y K
def eo.Wr{tm:TS}{hp:HS}{ctr b sz len:Nat}{xs:Lq}{e:Lc}{rows:Lq}{ys:Lz}(tZ i0 j id:Nat)(R:find hp tZ=some (.row b xs))(r:xs[i0]? =some e)(Q:e[j]? =some (.own id sz 0 len))(S:find hp id=some (.row sz rows))(M:aL rows ys)(U:len<=ys.length)(P:tZ≠id):
 eo tm hp ctr tm (del (jB hp tZ (.row b (xs.set i0 (e.set j (.t (.aO sz (ys.take len))))))) id) ctr:=λ_ _ _ _ _ _ J=>
 ⟨_,_,Rel.Wr tZ i0 j id R r Q S M U P J,jm.refl _,λ_ a H=>⟨a,λY=>H ((J.heap id _ S).lt Y).2.1⟩,λ_ _ G=>G.1⟩
def ZY{f:FuncId}{ts:Lw}{hp:HS}{len:Nat}{xs:Lq}{K:V->HS->Nat->Prop}{Good:Lw->Prop}(tZ i0 j id:Nat)(R:find hp tZ=some (.row szr xs))(hi0:xs[i0]? =some e)(r:e[j]? =some (.own id sz 0 len))(l:find hp id=some (.row sz rows))(o:aL rows ys)(U:len=ys.length)(hne:tZ≠id)(hT:wm ts=true)(g:bB (bM [(id,bE.row sz rows)]) us=some ts)
 (h: ∃rs,Fn P f ts [] (aR rs) []/\(aR rs).cR=true/\Good rs) (Z:∀rs,Good rs->K (aR rs) (del (jB hp tZ (.row szr (xs.set i0 (e.set j (.t (.aO sz ys)))))) id) (ctr+4)): ∃v hp' c',dI P f us hp ctr v hp' c'/\K v hp' c':=by
 obtain⟨rs,hfn,s,D⟩:=h;have e0:ys.take len=ys:=by rw[U,ad0]
 have h8:=Z rs D;rw[<-e0]at h8;refine⟨_,_,_,λM A ρ a w n L F J Q=>?_,h8⟩
 have z:=Rel.forget J (st':=⟨n,L,[(id,.row sz rows)]⟩) rfl (λ_ _ h=>h) (λk b G=>by
  simp only[aF]at G;split at G
  . rename_i e';subst e';rw[<-G];exact l
  . simp[find]at G)
 have hx':DJ w (λb=>A b/\ρ id≠some (.gD b)) ρ ts F.toList:=⟨(iR g).trans Q.1,λk u x Ev yA=>by
  obtain⟨c,N,hlc⟩:=eZ g k u Ev
  exact ja z (B:=λb=>A b/\ρ id≠some (.gD b)) (λb G=>G.1) (λk blk b Z hρ hB=>by
   simp only[aF]at Z;split at Z
   . rename_i e';subst e';exact hB.2 hρ
   . simp[find]at Z) hlc (Q.2 k c x N yA) ρ⟩
 have S:=Rel.Wr tZ i0 j id R hi0 r l o (Nat.le_of_eq U) hne J;refine(j7 (gH (ctr:=ctr) s hT hfn) M _ ρ a w n L F S hx').mono ?_;rintro e I ⟨x,d,ρ',O,y,H,r3,r4,r5⟩;refine⟨x,d,ρ',O,y,H,r3,r4,λb hA hM=>r5.1 b ⟨hA,λY=>hM ((J.heap id _ l).lt Y).2.1⟩ hM,λb G Y=>(r5.2 b G Y).1⟩
def TQ{n:Nat}{b:Rc}{Q:Exit->TS->HS->Nat->Prop}{tm j:TS}{hp w:HS}{Z:Nat}(S:Ren)(ks:List Nat)(R:Nat->List V->HS->Prop)(A:Nat)(v:List V){D:TS}{d:HS}{y:Nat}
 (B:eo tm hp ctr j w Z)
 (x:jx (S.tm j) λt=>mq (S.hp w) λq=>S.ok=true/\t=D/\q=d/\S.ctr=y)
 (z:D=fF ks v D) (h:R A v d)
 (s:∀m vs hq,R m vs hq->jx (fF ks vs D) λr=>X P n b (dP (bA λtm' hp' c'=> ∃m' e,R m' e hp'/\tm'=fF ks e D/\c'=y/\m' < m) Q) r hq y):
 ∃I:Nat->TS->HS->Nat->Prop,bA (λtm hp c=> ∃m,I m tm hp c) tm hp ctr/\
  ∀m tm hp c,I m tm hp c->X P n b (dP (bA λtm hp c=> ∃m',m' < m/\I m' tm hp c) Q) tm hp c:=by
 rw[dX,fL]at x;obtain⟨l,H,o,G⟩:=x;refine⟨λm tm' hp' c'=> ∃e,R m e hp'/\tm'=fF ks e D/\c'=y,.sem B (bA.mk' ⟨S,l,A,v,by rw[o];exact h,H.trans z,G⟩),?_⟩;rintro m tm' hq c' ⟨vs,M,rfl,rfl⟩;have:=s m vs hq M;rw[dX]at this;refine(congrArg (λJ=>X P n b (dP (bA J) Q) _ _ _) ?_).mp this;funext tm' hp' c'';exact propext ⟨λ⟨m',e,O,Y,g,U⟩=>⟨m',U,e,O,Y,g⟩,λ⟨m',U,e,O,Y,g⟩=>⟨m',e,O,Y,g,U⟩⟩
def ZO{J:TS->HS->Nat->Prop}{tm tm':TS}{hp hp':HS}{c':Nat}(B:eo tm hp ctr tm' hp' c')(N:List Nat)(a:List (Nat×Nat))
 (h:qW (Bo N a tm' hp') λS=>jx (S.tm tm') λt=>mq (S.hp hp') λq=>S.ok=true/\J t q S.ctr):bA J tm hp ctr:= .sem B (aI N a h)
def ZP{J:TS->HS->Nat->Prop}{tm:TS}{hp:HS}(S:Ren)
 (h:jx (S.tm tm) λt=>mq (S.hp hp) λq=>S.ok=true/\J t q S.ctr):bA J tm hp ctr:=by
 rw[dX,fL]at h;exact .mk _ h.1 h.2
def yH{f:FuncId}{ts:Lw}{hp:HS}{K:V->HS->Nat->Prop}{p:Lz->Prop}(U:iU hp us=some ts)(x:∀xs,p xs->(bE.row sz (tr xs)).flat=true)(h: ∃rs N,yw P f ts (aR rs) N/\GN sz p rs N)
 (Z:∀xs,p xs->K (.w (.one (.own (0+ctr) sz 0 xs.length))) ((0+ctr,.row sz (tr xs))::hp) (ctr+4)): ∃v hp' c',dI P f us hp ctr v hp' c'/\K v hp' c':=by
 obtain⟨v,hp',O,Y⟩:=vh (hp:=hp) (ctr:=ctr) (K:=λv hp'=>K v hp' (ctr+4)) U x h Z;exact⟨v,hp',ctr+4,j7 O,Y⟩
def T4(xs:Lz):B6 (tr xs)=some xs:=by
 have Q:∀l:Lt,L7 (l.map C.t)=some l:=by
  intro l
  induction l with
  |nil=>rfl
  |cons x l c=>simp only[aaq,L7,c,C.t?]
 induction xs with
 |nil=>rfl
 |cons x xs c=>
  simp only[tr,aaq,B6]at c⊢;rw[Q,c]
def J2{hp:HS}{len:Nat}(R:find hp id=some (.row sz (tr xs)))(U:len=xs.length):sN hp (.own id sz 0 len)=some (.t (.aO sz xs)):=by
 subst U;have n:(tr xs).length=xs.length:=iC
 have H:elems hp (.own id sz 0 xs.length)=some (sz,tr xs):=by
  simp only[elems,R,aas,n,ww,and_self,if_true,acg];rw[aac aa]
 simp only[sN,H,T4,wv]
def aIJ{hp:HS}{len:Nat}(R:find hp id=some (.row sz (tr xs)))(U:len=xs.length):iU hp [.one (.own id sz 0 len)]=some [.one (.t (.aO sz xs))]:=by
 simp only[iU,sM,J2 R U,wv]
def Vt(hp:HS)(ts:Lt):pw hp (ts.map C.t)=some (ts.map C.t):=by
 induction ts with
 |nil=>rfl
 |cons t ts c=>simp only[aaq,pw,sN,c]
def aII{hp:HS}{len:Nat}(ts:Lt)(R:find hp id=some (.row sz (tr xs)))(U:len=xs.length):iU hp [.agg (ts.map C.t),.one (.own id sz 0 len)]=some [.agg (ts.map C.t),.one (.t (.aO sz xs))]:=by
 simp only[iU,sM,J2 R U,Vt,wv]
end Go.aW
namespace Go.aW.Cd
open Go Go.Proofs
def ahK(n k:Nat)(tb:Lz):Prop:=tb.length=n/\ ∀e,e∈tb-> ∃c,e=[.aO 3 c]/\(∀q,q∈c->NY q)/\c.length=k
def eu.alone{s:ByteArray}{w L ps us v J:Lz}(h:eu s w L ps us v J){e:Lt}(H:aiM e):eu s w L ps us [e] J:=
 {h with hss:=λq d=>by simp only[vv]at d;subst d;exact H,Sb:=by simp[maxLen]}
abbrev yO(s:ByteArray)(w L ps us v J:Lz):Lt:=[.val (.string s),.aO 1 w,.aO 1 L,.aO 7 ps,.aO 3 us,.aO 6 v,.aO 5 J]
def aLn(N:Nat)(row:Lt)(m:Nat)(vs:List V)(w:List (Lz)):Prop:= ∃ (i:Nat) (F o:Lz),i<=N/\m=N - i/\vs=[bD 8 3 F.length,bD 12 3 o.length,iV .i64 (i:Int)]/\w=[[row],F,o]/\(I3 F/\F.length<=i * 12)/\I3 o/\o.length<=i * 12
def aLo(N B:Nat)(row x l:Lt)(m:Nat)(vs:List V)(w:List (Lz)):Prop:= ∃ (j:Nat) (F o:Lz),j<=N/\m=N - j/\vs=[bD 8 3 F.length,bD 12 3 o.length,iV .i64 (j:Int)]/\w=[[row],F,o,[x],[l]]/\(I3 F/\F.length<=B+j)/\I3 o/\o.length<=B+j
def Gw(s:ByteArray)(w L ps us v J:Lz)(l:eu s w L ps us v J)(Sb:v.length<=24)(hsm:alL ps v)(tb:Lz)(g:ahK ps.length L.length tb)(R:ps.length<=12)(M:L.length<=12): ∃ts N,yw Tryz.prog 79 [dV s w L ps us v J,oL 1 tb] (aR ts) N/\GN 3 (λzs=>I3 zs/\zs.length<=10000) ts N:=by
 have U:=g.1;refine jc Tryz.func79 ?_
 repeat' ((conv=>whnf);first|refine bZz (λh=>?_) (λh=>?_)|(refine aG (xs:=v) hsm aa aa ?_;rintro _ ⟨⟨d,b,a,c,q,f,rfl⟩,⟨MS,Se⟩,MR,Sd⟩ S;replace MS:0<=d:=MS;replace Se:d < (ps.length:Int):=Se;replace MR:0<=a:=MR;replace Sd:a < (ps.length:Int):=Sd)|(refine aG (xs:=tb) (n:=d) g.2 aa aa ?_;rintro _ ⟨g1,rfl,P,aRe⟩ K)|(refine aG (xs:=tb) (n:=a) g.2 aa aa ?_;rintro _ ⟨g2,rfl,y,aRd⟩ O)|(refine aG (xs:=g1) P aa aa ?_;rintro _ ⟨ga,gb,gc,rfl⟩ z)|(refine aG (xs:=g2) y aa aa ?_;rintro _ ⟨ga2,gb2,gc2,rfl⟩ Sc)|refine And.intro ⟨by simp[tr],by simp[tr,bh];omega,by simp[tr,maxLen];omega⟩ ?_|(have YS:=x.2;simp only[aaa]at YS;refine And.intro ⟨by simp[tr],by simp[tr,bh];omega,by simp[tr,maxLen];omega⟩ ?_)|(refine aD rfl (wS s w L ps us v J l _ _) ?_;rintro _ ⟨G,lb,r,rfl⟩)|(refine aD rfl (AQ s w L ps us [[tI d,tI b,tI a,tI c,tB q,tI f]] J (l.alone ⟨d,b,a,c,q,f,rfl⟩) ak (λe H=>by simp only[vv]at H;subst H;exact⟨⟨d,b,a,c,q,f,rfl⟩,⟨MS,Se⟩,MR,Sd⟩) _) ?_;rintro _ ⟨zs9,e9,rfl⟩)|(have Y:¬ (i:Int) < (v.length:Int):=ai;clear Y;rcases o with _|⟨y9,YK⟩)|rw[wg (xs:=y9::YK) rfl rfl]|exact gN rfl rfl rfl (xs:=F) rfl rfl ⟨Z.1,aa⟩|exact gN rfl rfl rfl (xs:=F++y9::YK) BQ iC ⟨Z.1.ya x.1,by simp at x;simp;omega⟩|(have Y:=S;clear Y;apply cL [1,2,5,6,7,8,9,16,17,18,29,30] [] [5,6,30] [(4,7),(8,3),(12,3),(16,6),(20,7)] (aLo L.length (i * 12) (yO s w L ps us v J) [tI d,tI b,tI a,tI c,tB q,tI f] (yO s w L ps us [[tI d,tI b,tI a,tI c,tB q,tI f]] J)) (L.length) [bD 8 3 F.length,bD 12 3 o.length,iV .i64 0] (eo.Wr (ys:=[[tI d,tI b,tI a,tI c,tB q,tI f]]) 48 0 5 60 rfl rfl rfl rfl rfl ak av);(iterate 3 exact ae);exact .cons (aL.aM (xs:=[yO s w L ps us v J]) rfl _) (.cons (aL.aM (xs:=F) rfl _) (.cons (aL.aM (xs:=o) rfl _) (.cons (aL.aM (xs:=[[tI d,tI b,tI a,tI c,tB q,tI f]]) rfl _) (.cons (aL.aM (xs:=[yO s w L ps us [[tI d,tI b,tI a,tI c,tB q,tI f]] J]) rfl _) .nil))));exact⟨0,F,o,aa,rfl,rfl,rfl,Z,x⟩;rintro _ _ _ ⟨j,A,B,Q,rfl,rfl,rfl,D,R7⟩)|(have Y:=Q;clear Y;refine aI [1,2,5,6,7,8,9,16,17,18,29,30] [] ?_;(conv=>whnf);first|exact⟨rfl,_,[_,_,_],_,.cons (aL.aM (xs:=[yO s w L ps us v J]) rfl _) (.cons (aL.aM (aL.snoc (xs:=A) rfl [tI _,tI _,tI _]) _) (.cons (aL.aM (aL.snoc (xs:=B) rfl [tI _,tI _,tI _]) _) (.cons (aL.aM (xs:=[[tI d,tI b,tI a,tI c,tB q,tI f]]) rfl _) (.cons (aL.aM (xs:=[yO s w L ps us [[tI d,tI b,tI a,tI c,tB q,tI f]] J]) rfl _) .nil)))),⟨j+1,_,_,aa,rfl,by rw[bF aa aa];simp[tr],rfl,⟨D.1.snoc _ _ _,by simp;omega⟩,R7.1.snoc _ _ _,by simp;omega⟩,rfl,rfl,aa⟩|exact⟨rfl,_,[_,_,_],_,.cons (aL.aM (xs:=[yO s w L ps us v J]) rfl _) (.cons (aL.aM (aL.snoc (xs:=A) rfl [tI _,tI _,tI _]) _) (.cons (aL.aM (xs:=B) rfl _) (.cons (aL.aM (xs:=[[tI d,tI b,tI a,tI c,tB q,tI f]]) rfl _) (.cons (aL.aM (xs:=[yO s w L ps us [[tI d,tI b,tI a,tI c,tB q,tI f]] J]) rfl _) .nil)))),⟨j+1,_,_,aa,rfl,by rw[bF aa aa];simp[tr],rfl,⟨D.1.snoc _ _ _,by simp;omega⟩,R7.1,aa⟩,rfl,rfl,aa⟩|exact⟨rfl,_,[_,_,_],_,.cons (aL.aM (xs:=[yO s w L ps us v J]) rfl _) (.cons (aL.aM (xs:=A) rfl _) (.cons (aL.aM (aL.snoc (xs:=B) rfl [tI _,tI _,tI _]) _) (.cons (aL.aM (xs:=[[tI d,tI b,tI a,tI c,tB q,tI f]]) rfl _) (.cons (aL.aM (xs:=[yO s w L ps us [[tI d,tI b,tI a,tI c,tB q,tI f]] J]) rfl _) .nil)))),⟨j+1,_,_,aa,rfl,by rw[bF aa aa];simp[tr],rfl,⟨D.1,aa⟩,R7.1.snoc _ _ _,by simp;omega⟩,rfl,rfl,aa⟩|exact⟨rfl,_,[_,_,_],_,.cons (aL.aM (xs:=[yO s w L ps us v J]) rfl _) (.cons (aL.aM (xs:=A) rfl _) (.cons (aL.aM (xs:=B) rfl _) (.cons (aL.aM (xs:=[[tI d,tI b,tI a,tI c,tB q,tI f]]) rfl _) (.cons (aL.aM (xs:=[yO s w L ps us [[tI d,tI b,tI a,tI c,tB q,tI f]] J]) rfl _) .nil)))),⟨j+1,_,_,aa,rfl,by rw[bF aa aa];rfl,rfl,⟨D.1,aa⟩,R7.1,aa⟩,rfl,rfl,aa⟩)|(apply cL [1,2,5,6,16,17,18] [] [5,6,18] [(4,7),(8,3),(12,3)] (aLn v.length (yO s w L ps us v J)) (v.length) [bD 8 3 0,bD 12 3 0,iV .i64 0] (eo.trans (eo.dQ 5 3 rfl) (eo.dQ 6 3 rfl));(iterate 3 exact ae);exact .cons (aL.aM (xs:=[yO s w L ps us v J]) rfl _) (.cons (aL.aM aL.nil _) (.cons (aL.aM aL.nil _) .nil));exact⟨0,[],[],aa,rfl,rfl,rfl,⟨I3.nil,ak⟩,I3.nil,ak⟩;rintro _ _ _ ⟨i,F,o,I,rfl,rfl,rfl,Z,x⟩)|(refine aI [1,2,5,6,16,17,18] [] ?_;(conv=>whnf);exact⟨rfl,_,[_,_,_],_,.cons (aL.aM (xs:=[yO s w L ps us v J]) rfl _) (.cons (aL.aM (xs:=A) rfl _) (.cons (aL.aM (xs:=B) rfl _) .nil)),⟨i+1,_,_,aa,rfl,by rw[bF aa aa];rfl,rfl,⟨D.1,aa⟩,R7.1,aa⟩,rfl,rfl,aa⟩))
def TbV(n k i:Nat)(xs:Lz):Prop:=xs.length=n/\(∀j,j < i-> ∃c,xs[j]? =some [.aO 3 c]/\(∀q,q∈c->NY q)/\c.length=k)/\ ∀j,i<=j->j < n->xs[j]? =some [dw]
def TbV.zero(n k:Nat):TbV n k 0 (List.replicate n [dw]):=⟨ak,λj h=>by omega,λj _ h=>by simp[h]⟩
variable{n:Nat}{xs gs:Lz}{rows:Lq}{Z:Lc}
def TbV.next{k i:Nat}(h:TbV n k i xs)(I:i < n)(hg:∀q,q∈gs->NY q)(Z:gs.length=k):TbV n k (i+1) (xs.set i [.aO 3 gs]):=by
 obtain⟨O,Y,B⟩:=h;refine⟨rW,λj Q=>?_,λj Q K=>?_⟩
 . by_cases e:j=i
   . subst e;exact⟨gs,aaj aa,hg,Z⟩
   . obtain⟨g2,H,o⟩:=Y j aa;exact⟨g2,by rw[aam (λh=>e h.symm)];exact H,o⟩
 . rw[aam aa];exact B j aa K
def TbV.done{k i:Nat}(h:TbV n k i xs)(I:n<=i):ahK n k xs:=by
 obtain⟨O,Y,B⟩:=h;refine⟨O,λe H=>?_⟩;obtain⟨j,Q,rfl⟩:=ab9.1 H;obtain⟨c,l,o⟩:=Y j aa;rw[YI Q,ii]at l;exact⟨c,l,o⟩
def ahK.aIO{k:Nat}{tb:Lz}(h:ahK n k tb)(K:n<=12)(Z:k<=12):aEy tb:=⟨by rw[h.1];exact K,λe H=>by obtain⟨c,l,o,G⟩:=h.2 e H;exact⟨c,l,o,aa⟩⟩
def anE{i:Nat}{c c':Lc}(f:Nat->Option Nat)(h:rows=(tr xs).set i c)(D:c.map (C.aM f)=c'):rows.map (λe=>e.map (C.aM f))=(tr xs).set i c':=by
 rw[h,afe,gk,D]
def amM{X:Lq}{i:Nat}{e:Lc}{K:Lc->Prop}(h:rows=X.set i e)(d:n=i)(I:i < X.length)(Z:K e):mP rows n K:=by
 subst h;exact Jc d.symm (d▸I) Z
def vA(xs:Lz):(tr xs).length=xs.length:=iC
def aA4{i E k z q b:Nat}(f:Nat->Option Nat)(h:rows=(tr xs).set i Z)(K:n=i)(hE:f E=some k)(hq:q=b):(rows.set n [.own E z 0 q]).map (λe=>e.map (C.aM f))=(tr xs).set i [.own k z 0 b]:=by
 subst K hq;rw[h,List.set_set,afe,gk];simp only[aaq,abh,C.aM,hE]
def adW(h:∀q,q∈gs->NY q)(a b:Bool)(c:Int):∀q,q∈gs++[[tB a,tB b,tI c]]->NY q:=λq d=>by
 rcases yl.1 d with d|d
 . exact h q d
 . simp only[vv]at d;exact⟨a,b,c,d⟩
def aGW{i:Nat}(h:rows=(tr xs).set i Z):aL (rows.set i [C.t (.aO 3 (gs.take gs.length))]) (xs.set i [.aO 3 gs]):=by
 rw[h,List.set_set,aac (ww _)];exact aL.set (xs:=xs) rfl i [T.aO 3 gs]
def RVo(N K:Nat)(row:Lt)(m:Nat)(vs:List V)(hq:HS):Prop:= ∃ (i:Nat) (o:Lz) (v:Lq),i<=N/\m=N - i/\vs=[iV .i64 (i:Int)]/\hq=[(4,.row 7 [row.map C.t]),(8,.row 1 v)]/\aL v o/\TbV N K i o
def RVi(K i:Nat)(row a:Lt)(xs:Lz)(m:Nat)(vs:List V)(hq:HS):Prop:= ∃ (j:Nat) (c:Lz) (v b:Lq),j<=K/\m=K - j/\vs=[iV .i64 (j:Int)]/\hq=[(4,.row 7 [row.map C.t]),(8,.row 1 v),(12,.row 7 [a.map C.t]),(16,.row 3 b)]/\v=(tr xs).set i [.own 16 3 0 j]/\aL b c/\(∀q,q∈c->NY q)/\c.length=j
def RV3(N:Nat)(row:Lt)(tb:Lz)(m:Nat)(vs:List V)(w:List (Lz)):Prop:= ∃ (i:Nat) (z:Lz),i<=N/\m=N - i/\vs=[bD 8 3 z.length,iV .i64 (i:Int)]/\w=[[row],z,tb]/\I3 z/\z.length<=20000+i * 12
def RV4(N B:Nat)(row:Lt)(tb:Lz)(m:Nat)(vs:List V)(w:List (Lz)):Prop:= ∃ (j:Nat) (z:Lz),(1<=j/\j<=N)/\m=N - j/\vs=[bD 8 3 z.length,iV .i64 (j:Int)]/\w=[[row],z,tb]/\I3 z/\z.length<=B+j
def D1(s:ByteArray)(w L ps us v J:Lz)(l:eu s w L ps us v J): ∃ts,Fn Tryz.prog 51 [dV s w L ps us v J] [] (aR ts) []/\(aR ts).cR=true/\(λts=> ∃zs e,ts=[oL 3 zs,oI e]/\I3 zs/\zs.length<=30000) ts:=by
 refine aS ?_;refine aC Tryz.func51 ?_
 repeat' ((conv=>whnf);first|refine bZz (λh=>?_) (λh=>?_)|(refine aG (xs:=ps) (n:=(i:Int)) l.hps aa aa ?_;rintro _ ⟨nm,B,g,j,R,F,mt,rfl,hnm,⟨H,r⟩,⟨K,_⟩,⟨D,P⟩,a,ni⟩ S)|(refine aG (xs:=L) (n:=(c.length:Int)) l.Sf aa aa ?_;rintro _ ⟨mu,rfl⟩ O)|refine amM M aa (by rw[vA,x.1];omega) ?_|(have hW:=(hC aa).1;refine And.intro ⟨by simp[tr],by simp[tr,bh];omega,by simp[tr,maxLen];omega⟩ ?_)|(refine cu (xs:=o) rfl hTb.2 aa ?_;rintro _ ⟨c,rfl,Y,vU⟩ S)|(simp only[aaa]at aCi;refine And.intro ⟨by simp[tr],by simp[tr,bh];omega,by simp[tr,maxLen];omega⟩ ?_)|(refine aG (xs:=L) (n:=(j5:Int)) l.Sf aa aa ?_;rintro _ ⟨mu1,rfl⟩ Tw)|(refine aG (xs:=L) l.Sf hD hD ?_;rintro _ ⟨mu0,rfl⟩ YW)|(refine aG (xs:=c) (n:=(j5:Int)) Y aa aa ?_;rintro _ ⟨ga1,gb1,gc1,rfl⟩ YV)|(refine aG (xs:=c) Y hD hD ?_;rintro _ ⟨ga0,gb0,gc0,rfl⟩ hs8)|(simp only[aaa]at aCg;refine And.intro ⟨by simp[tr],by simp[tr,bh];omega,by simp[tr,maxLen];omega⟩ ?_)|refine And.intro ag ?_|refine And.intro aa ?_|(refine aD rfl (GM s w L ps us v J l) ?_;rintro _ ⟨e,rfl,hC⟩)|(refine aN rfl (BZ (.val (.string nm)) B (tI g) j R F (tB mt) H r D P a ni mu) ?_;rintro _ ⟨ga,gb,gc,rfl⟩)|(apply gh [1,5,24,25,26] [] [26] (RVo ps.length L.length (yO s w L ps us v J)) (ps.length) [iV .i64 0];(iterate 3 exact ae);exact⟨0,_,_,aa,ak,rfl,rfl,aL.aM (aL.replicate _ [dw]) _,TbV.zero _ _⟩;rintro _ _ _ ⟨i,o,rows,I,rfl,rfl,rfl,hR2,x⟩)|(have hxi:o[i]? =some [dw]:=x.2.2 i (ww i) aa;obtain rfl:rows=tr o:=hR2;apply TQ ⟨[1,5,6,7,24,25,26,32,33,34],[(4,4),(8,8),(28,12),(56,16)],20⟩ [34] (RVi L.length i (yO s w L ps us v J) (Tp (.val (.string nm)) B (tI g) j R F (tB mt)) o) L.length [iV .i64 0] (eo.aA2 (e:=[C.t dw]) 8 i 0 3 rfl (by simp[tr,hxi]) rfl);exact (by (conv=>whnf);exact⟨rfl,rfl,rfl,rfl⟩);exact rfl;exact⟨0,[],_,_,aa,rfl,rfl,rfl,anE _ rfl rfl,aL.aM aL.nil _,(λq d=>by simp at d),rfl⟩;rintro _ _ _ ⟨_,c,rows,rg,Q,rfl,rfl,rfl,M,hrg,Y,rfl⟩;obtain rfl:rg=tr c:=hrg)|(have hW:=(hC aa).1;refine ZP ⟨[1,5,6,7,24,25,26,32,33,34],[(4,4),(8,8),(12,12),(76,16)],20⟩ ?_;(conv=>whnf);exact⟨rfl,_,[_],⟨c.length+1,c++[[tB ga,tB gb,tI gc]],_,_,aa,rfl,by rw[bF aa aa];rfl,rfl,aA4 _ M aa rfl iC,aL.aM (aL.snoc (xs:=c) rfl [tB _,tB _,tI _]) _,adW Y _ _ _,ak⟩,rfl,rfl,aa⟩)|(have hW:=(hC aa).1;obtain MY:c.length=L.length:=aa;refine ZO (eo.Wr (e:=[.own 16 3 0 c.length]) 8 i 0 16 rfl (by rw[M,aaj (by rw[vA,x.1];omega)]) rfl rfl (rfl:aL (tr c) c) (ww _) av) [1,5,24,25,26] [] ?_;(conv=>whnf);exact⟨rfl,_,[_],⟨i+1,_,_,aa,rfl,by rw[bF aa aa];rfl,rfl,aL.aM (aGW M) _,x.next aa Y aa⟩,rfl,rfl,aa⟩)|(obtain rfl:rows=tr o:=hR2;have hW:=(hC aa).1;have hTb:=x.done aa;have LK:ps.length=o.length:=x.1.symm;refine yH (aIJ (xs:=o) rfl aa) (I3.flat (xs:=[]) λo h=>h.1) (AJ o (hTb.aIO aa aa)) ?_;rintro N ⟨U,aP8⟩)|(refine yH (aII (xs:=o) (yO s w L ps us v J) rfl aa) (I3.flat (xs:=[]) λo h=>h.1) (Gw s w L ps us v J l aa (λe H=>⟨l.hss e H,(hC aa).2 e H⟩) o hTb aa aa) ?_;rintro z2 ⟨b,aCi⟩)|(refine aN rfl (BY ga0 gb0 gc0 ga1 gb1 gc1) ?_;rintro _ ⟨b9,rfl⟩)|(refine aD rfl (D0 s w L ps us v J aa aa (hC aa).1.2) ?_;rintro _ ⟨zu,rfl,hzu,aCg⟩)|(rcases z2 with _|⟨y9,YK⟩)|rw[wg (xs:=y9::YK) rfl rfl]|(rcases zu with _|⟨y8,zt8⟩)|exact eL rfl (dy 3 rfl) (cv rfl) ⟨_,_,rfl,I3.nil,ak⟩|exact eL rfl (df rfl rfl (xs:=z) rfl aa) (cv rfl) ⟨_,_,rfl,by rw[cD rfl];exact⟨A,aa⟩⟩|exact eL rfl (df rfl rfl (xs:=z++y8::zt8) BQ iC) (cv rfl) ⟨_,_,rfl,by rw[cD iC];exact⟨A.ya hzu,by simp only[XV,aaa]at aCg⊢;omega⟩⟩|(apply bp [1,10,11,12,13,59,60,61] [] [10,13] [(4,7),(8,3),(12,1)] (RV4 L.length (20000+k * 12) (yO s w L ps us v J) o) (L.length - 1) [bD 8 3 z.length,iV .i64 1];(iterate 3 exact ae);exact .cons (aL.aM (xs:=[yO s w L ps us v J]) rfl _) (.cons (aL.aM (xs:=z) rfl _) (.cons (aL.aM (xs:=o) rfl _) .nil));exact⟨1,z,⟨aa,aa⟩,rfl,rfl,rfl,A,aa⟩;rintro _ _ _ ⟨j5,y,hj5,rfl,rfl,rfl,G,iI⟩)|(refine aI [1,10,11,12,13,59,60,61] [] ?_;(conv=>whnf);first|exact⟨rfl,_,[_,_],_,.cons (aL.aM (xs:=[yO s w L ps us v J]) rfl _) (.cons (aL.aM (aL.snoc (xs:=y) rfl [tI _,tI _,tI _]) _) (.cons (aL.aM (xs:=o) rfl _) .nil)),⟨j5+1,_,⟨aa,aa⟩,rfl,by rw[bF aa aa];simp[tr],rfl,G.snoc _ _ _,by simp;omega⟩,rfl,rfl,aa⟩|exact⟨rfl,_,[_,_],_,.cons (aL.aM (xs:=[yO s w L ps us v J]) rfl _) (.cons (aL.aM (xs:=y) rfl _) (.cons (aL.aM (xs:=o) rfl _) .nil)),⟨j5+1,_,⟨aa,aa⟩,rfl,by rw[bF aa aa];rfl,rfl,G,aa⟩,rfl,rfl,aa⟩)|(apply bp [1,10,59,60,61] [] [10,61] [(4,7),(8,3),(12,1)] (RV3 ps.length (yO s w L ps us v J) o) (ps.length) [bD 8 3 ((tr N).length+((tr YK).length+1)),iV .i64 0];(iterate 3 exact ae);exact .cons (aL.aM (xs:=[yO s w L ps us v J]) rfl _) (.cons (aL.aM (xs:=N++y9::YK) BQ _) (.cons (aL.aM (xs:=o) rfl _) .nil));exact⟨0,N++y9::YK,aa,rfl,by simp[tr],rfl,U.ya b,by simp only[XV,aaa]at aCi⊢;omega⟩;rintro _ _ _ ⟨k,z,Z,rfl,rfl,rfl,A,iF⟩)|(refine aI [1,10,59,60,61] [] ?_;(conv=>whnf);exact⟨rfl,_,[_,_],_,.cons (aL.aM (xs:=[yO s w L ps us v J]) rfl _) (.cons (aL.aM (xs:=y) rfl _) (.cons (aL.aM (xs:=o) rfl _) .nil)),⟨k+1,_,aa,rfl,by rw[bF aa aa];rfl,rfl,G,aa⟩,rfl,rfl,aa⟩)|(apply bp [1,10,59,60,61] [] [10,61] [(4,7),(8,3),(12,1)] (RV3 ps.length (yO s w L ps us v J) o) (ps.length) [bD 8 3 N.length,iV .i64 0];(iterate 3 exact ae);exact .cons (aL.aM (xs:=[yO s w L ps us v J]) rfl _) (.cons (aL.aM (xs:=N) rfl _) (.cons (aL.aM (xs:=o) rfl _) .nil));exact⟨0,N,aa,rfl,rfl,rfl,U,aa⟩;rintro _ _ _ ⟨k,z,Z,rfl,rfl,rfl,A,iF⟩))
end Go.aW.Cd
namespace Go.aW.Cd
open Go Go.Proofs
variable[kw]
def aD0(e:Lt):Int:=IntKind.i64.wrap (IntKind.i64.wrap (nI 3 e+nI 2 e) - nI 1 e)
def Js(r f t a:Int):Tg 110 [RL r f t a] (oq (λn=>n=aD0 (Ij r f t a))):=by
 refine aC Tryz.func110 ?_
 repeat' ((conv=>whnf);first|exact jX rfl rfl rfl)
def PtB(ln wd:Int)(aH lots:Lz)(F:Int)(p:Lt):Prop:=ClL aH p/\(0<=nI 3 p/\nI 3 p<=ln)/\nI 0 (BO lots (nI 0 p))=F/\wd<=nI 1 (BO aH (nI 0 p))
def PtJ(ln:Int)(aQ ps:Lz)(i:Nat)(p:Lt):Prop:=(i=0->nI 3 p=0)/\(0 < i->jnV ln aQ ((ps[i - 1]?).getD []) p=true)
structure IQ(ln wd:Int)(aQ aH lots:Lz)(fk:Int)(ps:Lz):Prop where
 ne:ps.length≠0
 all:∀i p,ps[i]? =some p->PtB ln wd aH lots fk p/\PtJ ln aQ ps i p
 en:aD0 ((ps[ps.length - 1]?).getD [])=ln
def XZ(Q:Nat->Lt->Prop)(xs:Lz)(i:Nat):Prop:= ∀j e,j < i->xs[j]? =some e->Q j e
variable{xs:Lz}{e:Lt}
def XZ.succ{Q:Nat->Lt->Prop}{i:Nat}(h:XZ Q xs i)(S:xs[i]? =some e)(hq:Q i e):XZ Q xs (i+1):=by
 intro j J K H
 by_cases v:j=i
 . subst v;rw[S]at H;cases H;exact hq
 . exact h j J aa H
def XY(Q:Nat->Lt->Prop)(xs:Lz)(j:List (Lz))(m:Nat)(vs:List V)(w:List (Lz)):Prop:= ∃i:Nat,i<=xs.length/\XZ Q xs i/\m=xs.length - i/\vs=[iV .i64 (i:Int)]/\w=j
def XY.next{Q:Nat->Lt->Prop}{j:List (Lz)}{i:Nat}(I:(i:Int) < (xs.length:Int))(U:xs.length<=maxLen)(h:XZ Q xs i)(S:xs[((i:Int)).toNat]? =some e)(hq:Q i e):XY Q xs j (xs.length - (i+1)) [iV .i64 (IntKind.i64.wrap ((i:Int)+1))] j:=
 ⟨i+1,aa,h.succ aA hq,rfl,by simp only[maxLen]at U;rw[bF aa aa];rfl,rfl⟩
section
variable{ln wd l r f t a:Int}{aQ aH lots ps:Lz}{i:Nat}{b:Bool}{x:Lt}{n7:Int}{id:ByteArray}{w1 l1 a2 b2 c2:Int}{fl:Lz}
def PtB.mk'(G:b=true↔ClL aH (Ij r f t a))(z:(!b)=false)(O:¬a < 0)(Y:¬a > ln)(H:lots[r.toNat]? =some [tI n7])(B:n7=l)(s:aH[r.toNat]? =some [.val (.string id),tI w1,tI l1,tI a2,tI b2,tI c2,.aO 4 fl])(g:¬w1 < wd):PtB ln wd aH lots l (Ij r f t a):=by
 refine⟨G.1 (dM z),⟨by show 0<=a;omega,by show a<=ln;omega⟩,?_,?_⟩
 . show nI 0 (BO lots r)=l;rw[rN H];exact B
 . show wd<=nI 1 (BO aH r);rw[rN s];show wd<=w1;omega
def yU(d:IQ ln wd aQ aH lots l ps)(S:ps[((i:Int)).toNat]? =some x):PtB ln wd aH lots l x/\PtJ ln aQ ps i x:=d.all i x aA
def aBV(d:IQ ln wd aQ aH lots l ps)(S:ps[((i:Int)).toNat]? =some (Ij r f t a))(G:b=true↔ClL aH (Ij r f t a))(z:(!b)=true):False:=by
 have:=G.2 (yU d S).1.1;rw[this]at z;simp at z
def aBW(d:IQ ln wd aQ aH lots l ps)(S:ps[((i:Int)).toNat]? =some (Ij r f t a))(h:a < 0\/a > ln):False:=by
 have O:0<=a/\a<=ln:=(yU d S).1.2.1;omega
def apA(d:IQ ln wd aQ aH lots l ps)(S:ps[((i:Int)).toNat]? =some (Ij r f t a))(H:lots[r.toNat]? =some [tI n7])(B:¬n7=l):False:=by
 have O:nI 0 (BO lots r)=l:=(yU d S).1.2.2.1;rw[rN H]at O;exact B O
def aBS(d:IQ ln wd aQ aH lots l ps)(S:ps[((i:Int)).toNat]? =some (Ij r f t a))(s:aH[r.toNat]? =some [.val (.string id),tI w1,tI l1,tI a2,tI b2,tI c2,.aO 4 fl])(g:w1 < wd):False:=by
 have O:wd<=nI 1 (BO aH r):=(yU d S).1.2.2.2;rw[rN s]at O;have O:wd<=w1:=O;omega
def aBU(d:IQ ln wd aQ aH lots l ps)(S:ps[((i:Int)).toNat]? =some (Ij r f t a))(I:(i:Int)=0)(h:¬a=0):False:=
 h ((yU d S).2.1 aa)
def OP(I:(i:Int) > 0)(U:ps.length<=maxLen)(hi2:(i:Int) < (ps.length:Int))(B:ps[(IntKind.i64.wrap ((i:Int) - 1)).toNat]? =some x):(ps[i - 1]?).getD []=x:=by
 simp only[maxLen]at U;rw[bF aa aa,show((i:Int) - 1).toNat=i - 1 by omega]at B;simp[B]
def aBT(d:IQ ln wd aQ aH lots l ps)(S:ps[((i:Int)).toNat]? =some (Ij r f t a))(I:(i:Int) > 0)(U:ps.length<=maxLen)(hi2:(i:Int) < (ps.length:Int))(B:ps[(IntKind.i64.wrap ((i:Int) - 1)).toNat]? =some x)(h:(!jnV ln aQ x (Ij r f t a))=true):False:=by
 have:=(yU d S).2.2 aa;rw[OP I U hi2 B]at this;rw[this]at h;simp at h
def PtJ.zero(I:(i:Int)=0)(h:a=0):PtJ ln aQ ps i (Ij r f t a):=⟨λ_=>h,λh=>by omega⟩
def PtJ.pos(I:(i:Int) > 0)(U:ps.length<=maxLen)(hi2:(i:Int) < (ps.length:Int))(B:ps[(IntKind.i64.wrap ((i:Int) - 1)).toNat]? =some x)(h:(!jnV ln aQ x (Ij r f t a))=false):PtJ ln aQ ps i (Ij r f t a):=
 ⟨λh=>by omega,λ_=>by rw[OP I U hi2 B];exact dM h⟩
def O4(U:ps.length<=maxLen)(z:¬ (ps.length:Int)=0)(B:ps[(IntKind.i64.wrap ((ps.length:Int) - 1)).toNat]? =some x):(ps[ps.length - 1]?).getD []=x:=by
 simp only[maxLen]at U;rw[bF aa aa,show((ps.length:Int) - 1).toNat=ps.length - 1 by omega]at B;simp[B]
end
def pQ(ln wd U c:Int)(sizes places aQ aH lots:Lz)(hp:yn aQ)(M:TG aH)(g:aH.length<=maxLen)(Z:Is lots)(K:lots.length=aH.length)(l:Int)(ps:Lz)(A:ZA ps)(R:ps.length<=maxLen):Tg 67 [YP ln wd U c sizes places,oL 1 aQ,oL 7 aH,oL 1 lots,U2 l ps] (oq (λn=>n=0↔IQ ln wd aQ aH lots l ps)):=by
 refine aC Tryz.func67 ?_
 repeat' ((conv=>whnf);first|refine bZz (λh=>?_) (λh=>?_)|(have v:0<=y/\y < (aH.length:Int):=(G.1 (dM (b:=b) ai)).1;refine aG (xs:=lots) Z v.1 aa ?_;rintro _ ⟨n7,rfl⟩ H)|(have v:0<=y/\y < (aH.length:Int):=(G.1 (dM (b:=b) ai)).1;refine aG (xs:=aH) M v.1 v.2 ?_;rintro _ ⟨id,w1,l1,a2,b2,c2,fl,rfl,D,x,J⟩ s)|(refine aG (xs:=ps) A aa aa ?_;rintro _ ⟨y,F,w,L,rfl⟩ S)|(have z:=R;simp only[maxLen]at z;refine aG (xs:=ps) A ah ah ?_;rintro _ ⟨a,N,P,r,rfl⟩ B)|refine And.intro ag ?_|(refine aD rfl (AL y F w L aH M) ?_;rintro _ ⟨b,rfl,G⟩)|(refine aN rfl (D6 ln aQ hp _ _ _ _ _ _ _ _) ?_;rintro _ ⟨rfl,_⟩)|(refine aN rfl (Js _ _ _ _) ?_;rintro _ ⟨_,rfl,rfl⟩)|exact jX rfl rfl (iff_of_false av (λd=>by have O:=d.ne;omega))|exact jX rfl rfl (iff_of_false av (λd=>aBV d S G ai))|exact jX rfl rfl (iff_of_false av (λd=>aBW d S aa))|exact jX rfl rfl (iff_of_false av (λd=>apA d S H aa))|exact jX rfl rfl (iff_of_false av (λd=>aBS d S s aa))|exact jX rfl rfl (iff_of_false av (λd=>aBU d S aa aa))|exact jX rfl rfl (iff_of_false av (λd=>aBT d S aa R aa B ai))|exact jX rfl rfl (iff_of_false av (λd=>by have O:=d.en;rw[O4 R aa B]at O;exact absurd O ai))|exact jX rfl rfl (iff_of_true rfl ⟨aa,λj p Q=>o j p (by have:=(jl.1 Q).1;omega) Q,by rw[O4 R aa B];omega⟩)|(apply bp [1,2,3,5,9,18,19,20] [] [20] [(4,6),(8,2)] (XY (λi p=>PtB ln wd aH lots l p/\PtJ ln aQ ps i p) ps [[[tI ln,tI wd,tI U,tI c,.aO 1 sizes,.aO 7 places]],[[tI l,.aO 4 ps]]]) (ps.length) [iV .i64 0];(iterate 3 exact ae);exact .cons (aL.aM (xs:=[[tI ln,tI wd,tI U,tI c,.aO 1 sizes,.aO 7 places]]) rfl _) (.cons (aL.aM (xs:=[[tI l,.aO 4 ps]]) rfl _) .nil);exact⟨0,aa,λj e Q=>by omega,rfl,rfl,rfl⟩;rintro _ _ _ ⟨i,I,o,rfl,rfl,rfl⟩)|(refine aI [1,2,3,5,9,18,19,20] [] ?_;(conv=>whnf);first|exact⟨rfl,_,[_],_,.cons (aL.aM (xs:=[[tI ln,tI wd,tI U,tI c,.aO 1 sizes,.aO 7 places]]) rfl _) (.cons (aL.aM (xs:=[[tI l,.aO 4 ps]]) rfl _) .nil),XY.next aa R o S ⟨PtB.mk' G ai ai ai H aa s ai,PtJ.pos aa R aa B ai⟩,rfl,rfl,aa⟩|exact⟨rfl,_,[_],_,.cons (aL.aM (xs:=[[tI ln,tI wd,tI U,tI c,.aO 1 sizes,.aO 7 places]]) rfl _) (.cons (aL.aM (xs:=[[tI l,.aO 4 ps]]) rfl _) .nil),XY.next aa R o S ⟨PtB.mk' G ai ai ai H aa s ai,PtJ.zero aa aa⟩,rfl,rfl,aa⟩)|(exfalso;omega))
end Go.aW.Cd
namespace Go.aW.Cd
open Go Go.Proofs
variable[kw]
def Iv(l:Int)(ps poly:Lz):Int×Int:=pk 69 [U2 l ps,oL 2 poly] (λp=>[oI p.1,oI p.2]) (λp=>p.2=0->0<=p.1/\p.1 < (ps.length:Int))
def mG(l:Int)(ps poly:Lz)(hp:ZA ps)(R:ps.length<=maxLen)(hx:cO poly)(U:poly.length<=1000000): ∃ts,Fn Tryz.prog 69 [U2 l ps,oL 2 poly] [] (aR ts) []/\(aR ts).cR=true/\(ts=[oI (Iv l ps poly).1,oI (Iv l ps poly).2]/\((Iv l ps poly).2=0->0<=(Iv l ps poly).1/\(Iv l ps poly).1 < (ps.length:Int))):=by
 obtain⟨ts,O,Y,n,e,rfl,B⟩:=Dr l ps poly hp R hx U;exact lp (enc:=λp:Int×Int=>[oI p.1,oI p.2]) (Q:=λp=>p.2=0->0<=p.1/\p.1 < (ps.length:Int)) ⟨(n,e),O,Y,B⟩
def ohV(poly:Lz)(x y w h:Int):Bool×Int:=pk 116 [oL 2 poly,RL x y w h] (λp=>[oB p.1,oI p.2]) (λ_=>True)
def Ei(poly:Lz)(hx:cO poly)(U:poly.length<=1000000)(x y w h:Int): ∃ts,Fn Tryz.prog 116 [oL 2 poly,RL x y w h] [] (aR ts) []/\(aR ts).cR=true/\(ts=[oB (ohV poly x y w h).1,oI (ohV poly x y w h).2]/\True):=by
 obtain⟨ts,O,Y,b,e,rfl⟩:=Hi poly hx U x y w h;exact lp (enc:=λp:Bool×Int=>[oB p.1,oI p.2]) (Q:=λ_=>True) ⟨(b,e),O,Y,trivial⟩
def FM(a:Int->Int->Int->Int->Bool×Int)(d:Int):Lz->Bool×Int
 | []=>(false,0)
 |f::r=>if(a (IntKind.i64.wrap (nI 0 f+d)) (nI 1 f) (nI 2 f) (nI 3 f)).2≠0 then(false,(a (IntKind.i64.wrap (nI 0 f+d)) (nI 1 f) (nI 2 f) (nI 3 f)).2)
  else if(a (IntKind.i64.wrap (nI 0 f+d)) (nI 1 f) (nI 2 f) (nI 3 f)).1=true then(true,0)else FM a d r
def Dw(l:Int)(ps poly:Lz):Lt:=BO ps ((Iv l ps poly).1)
def flV(l:Int)(ps aH poly:Lz):Bool×Int:=FM (ohV poly) (IntKind.i64.wrap (nI 3 (Dw l ps poly) - nI 1 (Dw l ps poly))) (nL 6 (BO aH (nI 0 (Dw l ps poly))))
structure ET(l:Int)(ps aH poly:Lz):Prop where
 car:(Iv l ps poly).2=0
 rng:0<=nI 0 (Dw l ps poly)/\nI 0 (Dw l ps poly) < (aH.length:Int)
 aH9:IN (BO aH (nI 0 (Dw l ps poly)))
 fl:(flV l ps aH poly).2=0
def GHt(l:Int)(ps aH poly:Lz)(ts:Lw):Prop:= ∃b e,ts=[oB b,oI e]/\(e=0↔ET l ps aH poly)/\(e=0->b=(flV l ps aH poly).1)
def RHt(a:Int->Int->Int->Int->Bool×Int)(d:Int)(fl:Lz)(j:List (Lz))(m:Nat)(vs:List V)(w:List (Lz)):Prop:= ∃i:Nat,i<=fl.length/\FM a d fl=FM a d (fl.drop i)/\m=fl.length - i/\vs=[iV .i64 (i:Int)]/\w=j
def Ik{fl:Lz}{i:Nat}{e:Lt}(S:fl[((i:Int)).toNat]? =some e):fl.drop i=e::fl.drop (i+1):=by
 have x:fl[i]? =some e:=aA
 obtain⟨I,H⟩:=jl.1 x;rw[abt I,H]
variable{d x y w h:Int}
def Ic{a:Int->Int->Int->Int->Bool×Int}{r:Lz}:FM a d ([tI x,tI y,tI w,tI h]::r)=if(a (IntKind.i64.wrap (x+d)) y w h).2≠0 then(false,(a (IntKind.i64.wrap (x+d)) y w h).2)else if(a (IntKind.i64.wrap (x+d)) y w h).1=true then(true,0)else FM a d r:=rfl
def RHt.next{a:Int->Int->Int->Int->Bool×Int}{fl:Lz}{j:List (Lz)}{i:Nat}(I:(i:Int) < (fl.length:Int))(U:fl.length<=maxLen)(R:FM a d fl=FM a d (fl.drop i))(S:fl[((i:Int)).toNat]? =some [tI x,tI y,tI w,tI h])(O:(a (IntKind.i64.wrap (x+d)) y w h).2=0)(Y:(a (IntKind.i64.wrap (x+d)) y w h).1=false):
 RHt a d fl j (fl.length - (i+1)) [iV .i64 (IntKind.i64.wrap ((i:Int)+1))] j:=by
 refine⟨i+1,aa,?_,rfl,by simp only[maxLen]at U;rw[bF aa aa];rfl,rfl⟩;rw[R,Ik S,Ic];rw[if_neg (λJ=>J O),if_neg (by rw[Y];simp)]
def arU{a:Int->Int->Int->Int->Bool×Int}{fl:Lz}{i:Nat}(R:FM a d fl=FM a d (fl.drop i))(S:fl[((i:Int)).toNat]? =some [tI x,tI y,tI w,tI h])(O:¬ (a (IntKind.i64.wrap (x+d)) y w h).2=0):¬ (FM a d fl).2=0:=by
 rw[R,Ik S,Ic];rw[if_pos (show(a (IntKind.i64.wrap (x+d)) y w h).2≠0 from O)];exact O
def arT{a:Int->Int->Int->Int->Bool×Int}{fl:Lz}{i:Nat}(R:FM a d fl=FM a d (fl.drop i))(S:fl[((i:Int)).toNat]? =some [tI x,tI y,tI w,tI h])(O:(a (IntKind.i64.wrap (x+d)) y w h).2=0)(Y:(a (IntKind.i64.wrap (x+d)) y w h).1=true):FM a d fl=(true,0):=by
 rw[R,Ik S,Ic];rw[if_neg (λJ=>J O),if_pos Y]
def arV{a:Int->Int->Int->Int->Bool×Int}{fl:Lz}{i:Nat}(R:FM a d fl=FM a d (fl.drop i))(I:fl.length<=i):FM a d fl=(false,0):=by
 rw[R,adf I];rfl
section
variable{l r1 f1 t1 a1:Int}{ps aH poly fl:Lz}{id:ByteArray}{w1 l1 a2 b2 c2:Int}
def zH(S:ps[((Iv l ps poly).1).toNat]? =some [tI r1,tI f1,tI t1,tI a1]):Dw l ps poly=[tI r1,tI f1,tI t1,tI a1]:=rN S
def Ni(S:ps[((Iv l ps poly).1).toNat]? =some [tI r1,tI f1,tI t1,tI a1])(s:aH[r1.toNat]? =some [.val (.string id),tI w1,tI l1,tI a2,tI b2,tI c2,.aO 4 fl]):flV l ps aH poly=FM (ohV poly) (IntKind.i64.wrap (a1 - f1)) fl:=by
 unfold flV;rw[zH S,show nI 0 [tI r1,tI f1,tI t1,tI a1]=r1 from rfl,rN s];rfl
def aCo(h:¬ (Iv l ps poly).2=0):(Iv l ps poly).2=0↔ET l ps aH poly:=iff_of_false h λd=>h d.car
def aJd(S:ps[((Iv l ps poly).1).toNat]? =some [tI r1,tI f1,tI t1,tI a1])(h:r1 < 0\/r1≥ (aH.length:Int)):¬ET l ps aH poly:=λd=>by
 have O:=d.rng;rw[zH S]at O;have O:0<=r1/\r1 < (aH.length:Int):=O;omega
def aJc(S:ps[((Iv l ps poly).1).toNat]? =some [tI r1,tI f1,tI t1,tI a1])(s:aH[r1.toNat]? =some [.val (.string id),tI w1,tI l1,tI a2,tI b2,tI c2,.aO 4 fl])(h:¬XX id w1 l1 a2 b2 c2 fl):¬ET l ps aH poly:=λd=>by
 have O:=d.aH9;rw[zH S]at O;have O:IN (BO aH r1):=O;rw[rN s]at O;exact h (IN.of O)
def aJb(S:ps[((Iv l ps poly).1).toNat]? =some [tI r1,tI f1,tI t1,tI a1])(s:aH[r1.toNat]? =some [.val (.string id),tI w1,tI l1,tI a2,tI b2,tI c2,.aO 4 fl])(h:¬ (FM (ohV poly) (IntKind.i64.wrap (a1 - f1)) fl).2=0):¬ET l ps aH poly:=λd=>by
 have O:=d.fl;rw[Ni S s]at O;exact h O
def akD(D:(Iv l ps poly).2=0)(S:ps[((Iv l ps poly).1).toNat]? =some [tI r1,tI f1,tI t1,tI a1])(z:0<=r1)(O:r1 < (aH.length:Int))(s:aH[r1.toNat]? =some [.val (.string id),tI w1,tI l1,tI a2,tI b2,tI c2,.aO 4 fl])(J:XX id w1 l1 a2 b2 c2 fl){b:Bool}(h:FM (ohV poly) (IntKind.i64.wrap (a1 - f1)) fl=(b,0)):
 ET l ps aH poly/\b=(flV l ps aH poly).1:=by
 refine⟨⟨D,?_,?_,?_⟩,?_⟩
 . rw[zH S];exact⟨z,O⟩
 . rw[zH S];show IN (BO aH r1);rw[rN s];exact⟨_,_,_,_,_,_,_,rfl,J⟩
 . rw[Ni S s,h]
 . rw[Ni S s,h]
end
def Nu(l:Int)(ps aH poly:Lz)(hp:ZA ps)(Z:ps.length<=maxLen)(M:TG aH)(hx:cO poly)(U:poly.length<=1000000):Tg 70 [U2 l ps,oL 7 aH,oL 2 poly] (GHt l ps aH poly):=by
 refine aS ?_;refine aC Tryz.func70 ?_
 repeat' ((conv=>whnf);first|refine bZz (λh=>?_) (λh=>?_)|refine And.intro aa (Exists.intro _ (And.intro s ?_))|(refine aG (xs:=ps) hp (K aa).1 (K aa).2 ?_;rintro _ ⟨r1,f1,t1,a1,rfl⟩ S)|(refine aG (xs:=aH) M aa aa ?_;rintro _ ⟨id,w1,l1,a2,b2,c2,fl,rfl,D,x,J⟩ s)|(refine aG (xs:=fl) x aa aa ?_;rintro _ ⟨P,O,b,B,rfl⟩ c)|(refine aD rfl (mG l ps poly hp Z hx U) ?_;rintro _ ⟨rfl,K⟩)|(refine aD rfl (z8 id w1 l1 a2 b2 c2 fl D x J) ?_;rintro _ ⟨o,rfl,a⟩)|(refine aD rfl (Ei poly hx U _ _ _ _) ?_;rintro _ ⟨rfl,_⟩)|exact eL rfl (cv rfl) (cv rfl) ⟨_,_,rfl,aCo ai,λz=>absurd z ai⟩|exact eL rfl (cv rfl) (cv rfl) ⟨_,_,rfl,iff_of_false av (aJd S aa),λz=>absurd z av⟩|exact eL rfl (cv rfl) (cv rfl) ⟨_,_,rfl,iff_of_false ai (aJc S s (λd=>absurd (a.2 d) ai)),λz=>absurd z ai⟩|exact eL rfl (cv rfl) (cv rfl) ⟨_,_,rfl,iff_of_false ai (aJb S s (arU R c ai)),λz=>absurd z ai⟩|(have y:=akD aa S aa aa s (a.1 aa) (arT R c aa ai);exact eL rfl (cv rfl) (cv rfl) ⟨_,_,rfl,iff_of_true rfl y.1,λ_=>y.2⟩)|(have y:=akD aa S aa aa s (a.1 aa) (arV R aa);exact eL rfl (cv rfl) (cv rfl) ⟨_,_,rfl,iff_of_true rfl y.1,λ_=>y.2⟩)|(apply bp [2,10,54,55,56] [] [56] [(4,4)] (RHt (ohV poly) (IntKind.i64.wrap (a1 - f1)) fl [[[tI r1,tI f1,tI t1,tI a1]]]) (fl.length) [iV .i64 0];(iterate 3 exact ae);exact .cons (aL.aM (xs:=[[tI r1,tI f1,tI t1,tI a1]]) rfl _) .nil;exact⟨0,aa,rfl,rfl,rfl,rfl⟩;rintro _ _ _ ⟨i,I,R,rfl,rfl,rfl⟩)|(refine aI [2,10,54,55,56] [] ?_;(conv=>whnf);exact⟨rfl,_,[_],_,.cons (aL.aM (xs:=[[tI r1,tI f1,tI t1,tI a1]]) rfl _) .nil,RHt.next aa J R c aa (by first|assumption|simp_all),rfl,rfl,aa⟩))
end Go.aW.Cd
namespace Go.aW.Cd
open Go Go.Proofs
variable[kw]
def aCp:lc Tryz.prog 112=some true:=ag
def zCp:dc Tryz.prog 112=some 6:=ag
def LF(sizes places:Lz)(M:Nat)(ps:Lz):Prop:=yn ps/\ps.length=places.length/\QT sizes.length places/\(∀e,e∈sizes->X5 M e)/\sizes.length<=6
def ahT(n:Nat)(m:Nat)(vs:List V)(w:List (Lz)):Prop:= ∃ (i:Nat) (M:Lz),i<=n/\m=n - i/\vs=[bD 4 1 M.length,iV .i64 (i:Int)]/\w=[M]/\yn M/\M.length=i
variable{n j:Nat}{zs ps plies R lots sizes places xs J P cuts gs ks L acc:Lz}{v l s g a b:Int}{e row:Lt}{F:Int->Int->Bool}{es:cF}
def ahT.next{i k:Nat}(I:(i:Int) < (n:Int))(K:n<=1000000)(A:yn zs)(N:zs.length=i)(hp:cO ps/\ps.length<=1000000)(Z:k=zs.length+1):ahT n (n - (i+1)) [bD 4 1 k,iV .i64 (IntKind.i64.wrap ((i:Int)+1))] [zs++[[.aO 2 ps]]]:=by
 refine⟨i+1,_,aa,rfl,by subst Z;rw[bF aa aa];simp,rfl,λe H=>?_,by simp;omega⟩;rcases yl.1 H with H|H
 . exact A e H
 . simp only[vv]at H;exact⟨ps,H,hp⟩
def Hz(s:ByteArray)(w L ps us v J:Lz)(l:eu s w L ps us v J)(ln r U c:Int)(sizes places:Lz)(A:Is sizes)(N:sizes.length<=maxLen)(R:X3 places)(b:places.length<=1000000):Tg 38 [dV s w L ps us v J,YP ln r U c sizes places] (X9 1 (LF sizes places w.length)):=by
 refine aS ?_;refine aC Tryz.func38 ?_
 repeat' ((conv=>whnf);first|refine bZz (λh=>?_) (λh=>?_)|(refine aG (xs:=j) (a aa).2.1 aa aa ?_;rintro _ ⟨Q,f,q,x,y,rfl,n,B⟩ S)|(have d:=(a aa).2.2.1;refine And.intro ⟨by simp[tr],by simp[tr,bh];omega,by simp[tr,maxLen];omega⟩ ?_)|(refine aD rfl (mD s w L ps us v J l ln r U c sizes places A N R b) ?_;rintro _ ⟨Z,j,e,rfl,a⟩)|(refine aD rfl (vI Z (a aa).1 Q f q x y) ?_;rintro _ ⟨F,o,rfl,K⟩)|exact eL rfl (dy 1 rfl) (cv rfl) ⟨_,_,rfl,λz=>absurd z aa⟩|exact eL rfl (df rfl rfl (xs:=M) rfl aa) (cv rfl) ⟨_,_,rfl,λ_=>by rw[cD rfl];have G:=a aa;exact⟨D,aa,G.2.2.2⟩⟩|(apply cL [6,9,24,25,26] [] [9,26] [(4,1)] (ahT j.length) (j.length) [bD 4 1 0,iV .i64 0] (eo.dQ 9 1 rfl);(iterate 3 exact ae);exact .cons (aL.aM aL.nil _) .nil;exact⟨0,[],aa,rfl,rfl,rfl,λe H=>by simp at H,rfl⟩;rintro _ _ _ ⟨i,M,I,rfl,rfl,rfl,D,g⟩)|(refine aI [6,9,24,25,26] [] ?_;(conv=>whnf);exact⟨rfl,_,[_,_],_,.cons (aL.aM (aL.snoc (xs:=M) rfl [.aO 2 _]) _) .nil,ahT.next aa (by have:=(a aa).2.2.1;omega) D g (K aa).1 iC,rfl,rfl,aa⟩))
def plV(s:ByteArray)(w L ps us v J:Lz)(ln r U c:Int)(sizes places:Lz):Lz×Int:=pk 38 [dV s w L ps us v J,YP ln r U c sizes places] (λp=>[oL 1 p.1,oI p.2]) (λp=>p.2=0->LF sizes places w.length p.1)
def Eo(s:ByteArray)(w L ps us v J:Lz)(l:eu s w L ps us v J)(ln r U c:Int)(sizes places:Lz)(A:Is sizes)(N:sizes.length<=maxLen)(R:X3 places)(b:places.length<=1000000):
 ∃ts,Fn Tryz.prog 38 [dV s w L ps us v J,YP ln r U c sizes places] [] (aR ts) []/\(aR ts).cR=true/\(ts=[oL 1 (plV s w L ps us v J ln r U c sizes places).1,oI (plV s w L ps us v J ln r U c sizes places).2]/\((plV s w L ps us v J ln r U c sizes places).2=0->LF sizes places w.length (plV s w L ps us v J ln r U c sizes places).1)):=by
 obtain⟨ts,O,Y,x,e,rfl,B⟩:=Hz s w L ps us v J l ln r U c sizes places A N R b;exact lp (enc:=λp:Lz×Int=>[oL 1 p.1,oI p.2]) (Q:=λp=>p.2=0->LF sizes places w.length p.1) ⟨(x,e),O,Y,B⟩
abbrev aID(p q l s:Int)(x:T)(d:Bool):W:= .agg [.t (tI p),.t (tI q),.t (tI l),.t (tI s),.t x,.t (tB d)]
def GPo(F:Int)(ps v n:Lz)(P a sz:Int)(ts:Lw):Prop:= ∃p q l s x d e,ts=[aID p q l s x d,oI e]/\(e=0↔ET F ps v n)/\
 (e=0->p=P/\q=a/\l=F/\s=sz/\x= .aO 1 [[tI (nI 0 (Dw F ps n))]]/\d=(flV F ps v n).1)
def Bl(ln c b N:Int)(sizes places plies v n:Lz)(M:TG v)(hx:cO n)(U:n.length<=1000000)(P a F g u k q x y sz:Int)(f:Bool)(ps:Lz)(A:ZA ps)(R:ps.length<=maxLen)(z:0<=P)(hy:plies[P.toNat]? =some [tI F,.aO 4 ps])(O:0<=a)(d:places[a.toNat]? =some [tI g,tI u,tI k,tB f,tI q,tI x,tI y])(Y:0<=g)(o:sizes[g.toNat]? =some [tI sz]):Tg 40 [pn ln c b N sizes places plies,oL 7 v,oI P,oI a,oL 2 n] (GPo F ps v n P a sz):=by
 refine aS ?_;refine aC Tryz.func40 ?_
 repeat' ((conv=>whnf);first|refine bG (λh=>?_) (λh=>?_)|refine And.intro z (Exists.intro _ (And.intro hy ?_))|refine And.intro O (Exists.intro _ (And.intro d ?_))|refine And.intro Y (Exists.intro _ (And.intro o ?_))|(refine aG (xs:=ps) A (K aa).1 (K aa).2 ?_;rintro _ ⟨r,s,w,L,rfl⟩ S)|refine And.intro ag ?_|(refine aD rfl (mG F ps n A R hx U) ?_;rintro _ ⟨rfl,K⟩)|(refine aD rfl (Nu F ps v n A R M hx U) ?_;rintro _ ⟨G,H,rfl,e,j⟩)|exact eL rfl (cc aCp zCp rfl rfl (ww _) rfl (dm.refl _)) (cv rfl) ⟨_,_,_,_,_,_,_,rfl,aCo ai,λz=>absurd z ai⟩|exact eL rfl (cc aCp zCp rfl rfl (ww _) rfl (dm.refl _)) (cv rfl) ⟨_,_,_,_,_,_,_,rfl,e,λz=>absurd z ai⟩|exact eL rfl (cc aCp zCp rfl rfl (ww _) rfl (dm.refl _)) (cv rfl) ⟨_,_,_,_,_,_,_,rfl,iff_of_true rfl (e.1 ai),λ_=>⟨rfl,rfl,rfl,rfl,by rw[zH S];rfl,j ai⟩⟩)
abbrev LA(plies:Lz):Prop:= ∀e,e∈plies-> ∃l q,e=[tI l,.aO 4 q]/\ZA q
def Fm{B:Nat}:∀ {plies:Lz},(∀e,e∈plies->(nL 1 e).length<=B)->(partsOf plies).length<=plies.length * B
 | [],_=>by simp[partsOf]
 |e::r,h=>by
  have O:=Fm (plies:=r) (λx N=>h x (aa2 _ N));have Y:=h e aa1;simp only[partsOf,acn,XV,aaa,aaw,adm]at O⊢;omega
def CB(h:∀e,e∈plies->(nL 1 e).length<=1000)(U:plies.length<=40)(i:Nat):(partsOf (plies.take i)).length<=100000:=by
 have O:=Fm (plies:=plies.take i) (λe H=>h e (aah H));have Y:(plies.take i).length<=40:=by rw[aab];omega
 have B:(plies.take i).length * 1000<=40 * 1000:=YH _ Y;omega
def PyL(ln r:Int)(R v lots:Lz)(e:Lt):Prop:=IQ ln r R v lots (nI 0 e) (nL 1 e)
structure SpL(ln wd:Int)(aQ aH lots plies:Lz):Prop where
 cl:ClF ln wd aQ aH lots
 n:plies.length<=40
 all:∀e,e∈plies->PyL ln wd aQ aH lots e
 us:uy aH.length (partsOf plies)=true
structure SpC(ln wd:Int)(aQ aH lots plies:Lz):Prop where
 cl:ClF ln wd aQ aH lots
 n:plies.length<=40
 all:∀e,e∈plies->PyL ln wd aQ aH lots e
 us:uy aH.length (partsOf plies)=false
abbrev SpG(ln r:Int)(R v lots plies:Lz)(n:Int):Prop:=(n=0↔SpL ln r R v lots plies)/\(SpC ln r R v lots plies->n=14)
def Mx{ln r:Int}{v:Lz}(h:PyL ln r R v lots e):∀q,q∈nL 1 e->0<=nI 0 q/\nI 0 q < (v.length:Int):=by
 intro q d;obtain⟨i,I,rfl⟩:=aa3 d;exact(h.all i _ afx).1.1.1
def uE(ln r U c:Int)(sizes places plies R v lots:Lz)(hp:yn R)(M:TG v)(j:v.length<=6)(Z:Is lots)(hy:LA plies)(P:plies.length<=1000000)(x:∀e,e∈plies->(nL 1 e).length<=1000):Tg 39 [pn ln r U c sizes places plies,oL 1 R,oL 7 v,oL 1 lots] (oq (SpG ln r R v lots plies)):=by
 refine aC Tryz.func39 ?_
 repeat' ((conv=>whnf);first|refine bZz (λh=>?_) (λh=>?_)|(refine aG (xs:=plies) hy aa aa ?_;rintro _ ⟨l,g,rfl,A⟩ S)|(refine jF aa aa ?_;intro a)|refine cT aa aa ?_|refine And.intro ag ?_|refine And.intro aa ?_|(refine aD rfl (nJ ln r U c sizes places R v lots hp M bq) ?_;rintro _ ⟨n,rfl,K⟩)|(refine aN rfl (nJ ln r U c sizes places R v lots hp M bq) ?_;rintro _ ⟨n,rfl,K⟩)|(refine aD rfl (pQ ln r U c sizes places R v lots hp M bq Z (K.1 ai).rs.lots l g A HI) ?_;rintro _ ⟨s,rfl,w⟩)|(refine aN rfl (pQ ln r U c sizes places R v lots hp M bq Z (K.1 ai).rs.lots l g A HI) ?_;rintro _ ⟨s,rfl,w⟩)|(refine aD rfl (wL v aa ln r U c sizes places plies hy P x (CB x aa) (λe H=>Mx (o.all aa e H))) ?_;rintro _ ⟨z,rfl⟩)|(refine aN rfl (wL v aa ln r U c sizes places plies hy P x (CB x aa) (λe H=>Mx (o.all aa e H))) ?_;rintro _ ⟨z,rfl⟩)|exact jX rfl rfl ⟨iff_of_false ai (λd=>absurd (K.2 d.cl) ai),λd=>absurd (K.2 d.cl) ai⟩|exact jX rfl rfl ⟨iff_of_false av (λd=>by have O:=d.n;omega),λd=>by have O:=d.n;omega⟩|exact jX rfl rfl ⟨iff_of_false ai (λd=>absurd (w.2 (d.all _ (oo S))) ai),λd=>absurd (w.2 (d.all _ (oo S))) ai⟩|exact jX rfl rfl ⟨iff_of_false av (λd=>absurd d.us (U7 ai)),λ_=>rfl⟩|exact jX rfl rfl ⟨iff_of_true rfl ⟨K.1 ai,aa,o.all aa,dM ai⟩,λd=>absurd (dM ai) (by rw[d.us];simp)⟩|(apply bp [1,2,3,4,29,30,31] [] [31] [(4,7)] (RQ2 (PyL ln r R v lots) plies [[[tI ln,tI r,tI U,tI c,.aO 1 sizes,.aO 7 places,.aO 2 plies]]]) (plies.length) [iV .i64 0];(iterate 3 exact ae);exact .cons (aL.aM (xs:=[[tI ln,tI r,tI U,tI c,.aO 1 sizes,.aO 7 places,.aO 2 plies]]) rfl _) .nil;exact⟨0,aa,Pre.zero,rfl,rfl,rfl⟩;rintro _ _ _ ⟨i,I,o,rfl,rfl,rfl⟩)|(refine aI [1,2,3,4,29,30,31] [] ?_;(conv=>whnf);exact⟨rfl,_,[_],_,.cons (aL.aM (xs:=[[tI ln,tI r,tI U,tI c,.aO 1 sizes,.aO 7 places,.aO 2 plies]]) rfl _) .nil,RQ2.next aa bq o S (w.1 ai),rfl,rfl,aa⟩)|(exfalso;omega))
def GS(ln r U c:Int)(sizes places plies R v lots:Lz)(hp:yn R)(M:TG v)(g:v.length<=6)(a:Is lots)(hy:LA plies)(P:plies.length<=1000000)(x:∀e,e∈plies->(nL 1 e).length<=1000):Tg 39 [pn ln r U c sizes places plies,oL 1 R,oL 7 v,oL 1 lots] (oq (λn=>n=0↔SpL ln r R v lots plies)):=by
 obtain⟨Z,O,Y,n,rfl,B⟩:=uE ln r U c sizes places plies R v lots hp M g a hy P x;exact⟨_,O,Y,n,rfl,B.1⟩
def agN(v sizes places:Lz)(e:Lt)(i k:Nat)(n:Lz):Lt:=
 [tI (i:Int),tI (k:Int),tI (nI 0 e),tI (nI 0 (BO sizes (nI 0 (BO places (k:Int))))),.aO 1 [[tI (nI 0 (Dw (nI 0 e) (nL 1 e) n))]],tB (flV (nI 0 e) (nL 1 e) v n).1]
abbrev Bp(xs:Lz)(i:Nat):Lt:=(xs[i]?).getD []
def pV(v sizes places R:Lz)(e:Lt)(i j:Nat):Lz:=(List.range j).map λk=>agN v sizes places e i k (nL 0 (Bp R k))
def kR(v sizes places R plies:Lz)(i:Nat):Lz:=(List.range i).flatMap λa=>pV v sizes places R (Bp plies a) a R.length
def HtE(v R:Lz)(e:Lt)(k:Nat):Prop:=ET (nI 0 e) (nL 1 e) v (nL 0 (Bp R k))
structure aiG(pe:Int)(ln wd:Int)(aQ aH lots plies:Lz):Prop where
 pe:pe=0
 sp:SpL ln wd aQ aH lots plies
 ht:∀a k,a < plies.length->k < aQ.length->HtE aH aQ (Bp plies a) k
def GPs(v sizes places R plies:Lz)(p:Prop)(ts:Lw):Prop:= ∃a e,ts=[oL 6 a,oI e]/\(e=0↔p)/\(e=0->a=kR v sizes places R plies plies.length)/\(¬e=0->a=[])
def RPa(row:Lt)(v sizes places R plies:Lz)(m:Nat)(vs:List V)(w:List (Lz)):Prop:= ∃ (i:Nat) (M:Lz),i<=plies.length/\m=plies.length - i/\vs=[bD 8 6 M.length,iV .i64 (i:Int)]/\w=[[row],M]/\M=kR v sizes places R plies i/\ ∀a k,a < i->k < R.length->HtE v R (Bp plies a) k
def RPb(row:Lt)(v sizes places R plies:Lz)(i:Nat)(m:Nat)(vs:List V)(w:List (Lz)):Prop:= ∃ (j:Nat) (M:Lz),j<=R.length/\m=R.length - j/\vs=[bD 8 6 M.length,iV .i64 (j:Int)]/\w=[[row],M]/\M=kR v sizes places R plies i++pV v sizes places R (Bp plies i) i j/\ ∀k,k < j->HtE v R (Bp plies i) k
def Av(v sizes places R plies:Lz)(i:Nat):kR v sizes places R plies (i+1)=kR v sizes places R plies i++pV v sizes places R (Bp plies i) i R.length:=by
 simp[kR,abf]
def Ml(v sizes places R:Lz)(e:Lt)(i j:Nat):pV v sizes places R e i (j+1)=pV v sizes places R e i j++[agN v sizes places e i j (nL 0 (Bp R j))]:=by
 simp[pV,abf]
def K8(v sizes places R plies:Lz)(i:Nat):(kR v sizes places R plies i).length=i * R.length:=by
 induction i with
 |zero=>simp[kR]
 |succ i c=>rw[Av,XV,c,aaw];simp[pV]
def abQ{v:Lz}{i:Nat}(A:zs=kR v sizes places R plies i++pV v sizes places R (Bp plies i) i j)(I:i < plies.length)(U:plies.length<=40)(B:R.length<=1000000)(Q:j<=R.length):zs.length<=50000000:=by
 have O:i * R.length<=40 * 1000000:=adS aa B;have Y:zs.length=i * R.length+j:=by rw[A,XV,K8];simp[pV]
 omega
def RPa.next{v:Lz}{i:Nat}(I:(i:Int) < (plies.length:Int))(U:plies.length<=40)(Q:j<=R.length)(n:R.length<=j)(B:R.length<=1000000)(A:zs=kR v sizes places R plies i++pV v sizes places R (Bp plies i) i j)(O:∀a k,a < i->k < R.length->HtE v R (Bp plies a) k)(Y:∀k,k < j->HtE v R (Bp plies i) k):
 RPa row v sizes places R plies (plies.length - (i+1)) [bD 8 6 zs.length,iV .i64 (IntKind.i64.wrap ((i:Int)+1))] [[row],zs]:=by
 have e:j=R.length:=aa
 subst e;refine⟨i+1,zs,aa,rfl,by rw[bF aa aa];rfl,rfl,by rw[Av];exact A,λa k w Z=>?_⟩
 by_cases b:a=i
 . subst b;exact Y k Z
 . exact O a k aa Z
def wi{i:Nat}(h:xs[i]? =some e):Bp xs i=e:=by simp[Bp,h]
def RPb.next{v D:Lz}{i:Nat}{p q F sz:Int}{c:Lt}{x:T}{d:Bool}(Q:(j:Int) < (R.length:Int))(B:R.length<=1000000)(A:zs=kR v sizes places R plies i++pV v sizes places R (Bp plies i) i j)(Y:∀k,k < j->HtE v R (Bp plies i) k)
 (hy:plies[i]? =some [tI F,.aO 4 ps]) (b:R[((j:Int)).toNat]? =some [.aO 2 D]) (a:places[((j:Int)).toNat]? =some (tI g::c)) (y:sizes[g.toNat]? =some [tI sz]) (L:ET F ps v D) (J:p=(i:Int)/\q=(j:Int)/\l=F/\s=sz/\x= .aO 1 [[tI (nI 0 (Dw F ps D))]]/\d=(flV F ps v D).1) (K:n=zs.length+1):
 RPb row v sizes places R plies i (R.length - (j+1)) [bD 8 6 n,iV .i64 (IntKind.i64.wrap ((j:Int)+1))] [[row],zs++[[tI p,tI q,tI l,tI s,x,tB d]]]:=by
 have H:Bp plies i=[tI F,.aO 4 ps]:=wi hy;have o:Bp R j=[.aO 2 D]:=wi (by simpa using b);have G:BO places (j:Int)=tI g::c:=rN a;have e:BO sizes g=[tI sz]:=rN y;obtain⟨rfl,rfl,rfl,rfl,rfl,rfl⟩:=J;refine⟨j+1,_,aa,rfl,by subst K;rw[bF aa aa];simp,rfl,?_,λk Z=>?_⟩
 . rw[Ml,A,aaQ];congr 2;simp only[agN,H,o,G];show [[_,_,_,_,_,_]]=[[_,_,_,tI (nI 0 (BO sizes g)),_,_]];rw[e];rfl
 . by_cases r:k=j
   . subst r;unfold HtE;rw[H,o];exact L
   . exact Y k aa
def aoN{ln r:Int}{v:Lz}{i:Nat}{F:Int}{n:Lz}(I:(i:Int) < (plies.length:Int))(Q:(j:Int) < (R.length:Int))(hy:plies[i]? =some [tI F,.aO 4 ps])(b:R[((j:Int)).toNat]? =some [.aO 2 n])(h:¬ET F ps v n):¬aiG a ln r R v lots plies:=λd=>by
 have O:=d.ht i j aa aa;unfold HtE at O;rw[wi hy,wi (show R[j]? =some [.aO 2 n] by simpa using b)]at O;exact h O
def aoJ(hy:LA plies){i:Nat}(I:(i:Int) < (plies.length:Int)): ∃F ps,plies[i]? =some [tI F,.aO 4 ps]/\ZA ps:=by
 have l:i < plies.length:=aa
 obtain⟨F,ps,O,Y⟩:=hy _ (aaC l);exact⟨F,ps,by rw[<-O];simp[l],Y⟩
def UX(hp:X3 places)(A:Is sizes)(hg:QT sizes.length places)(Q:(j:Int) < (places.length:Int)): ∃g u k f q x y sz,places[((j:Int)).toNat]? =some [tI g,tI u,tI k,tB f,tI q,tI x,tI y]/\0<=g/\sizes[g.toNat]? =some [tI sz]:=by
 have l:j < places.length:=aa
 obtain⟨g,u,k,f,q,x,y,O⟩:=hp _ (aaC l);have S:places[j]? =some [tI g,tI u,tI k,tB f,tI q,tI x,tI y]:=by rw[<-O];simp[l]
 obtain⟨Y,B⟩:=Wj hg S;have P:g.toNat < sizes.length:=aa
 obtain⟨sz,s⟩:=A _ (aaC P);exact⟨g,u,k,f,q,x,y,sz,aA,Y,by rw[<-s];simp[P]⟩
def Ds(s:ByteArray)(w L ps us v J:Lz)(l:eu s w L ps us v J)(ln r U c:Int)(sizes places plies b lots:Lz)(A:Is sizes)(iF:sizes.length<=maxLen)(Y:X3 places)(I7:places.length<=1000000)(N:TG b)(C5:b.length<=6)(hlo:Is lots)(hy:LA plies)(O:plies.length<=1000000)(D:∀e,e∈plies->(nL 1 e).length<=1000)(R:Lz)(pe:Int)(tQ:Te 38 [dV s w L ps us v J,YP ln r U c sizes places] [oL 1 R,oI pe])(hAr:pe=0->LF sizes places w.length R):Tg 17 [dV s w L ps us v J,pn ln r U c sizes places plies,oL 7 b,oL 1 lots] (GPs b sizes places R plies (aiG pe ln r R b lots plies)):=by
 refine aS ?_;refine aC Tryz.func17 ?_
 repeat' ((conv=>whnf);first|refine bZz (λh=>?_) (λh=>?_)|(have h7:=(hAr ai).2.1;refine aG (xs:=R) (hAr ai).1 aa aa ?_;rintro _ ⟨poly,rfl,aJA,aJz⟩ hpo;obtain⟨S,pp,hyi,hpq⟩:=aoJ hy (i:=i) aa;have aJu:pp.length<=maxLen:=(by have B:pp.length<=1000:=D _ (oo hyi);simp only[maxLen];omega);obtain⟨g,u,k,f,q,x,y,P,MQ,hg0,o⟩:=UX Y A (hAr ai).2.2.1 (j:=j) aa)|(have h7:=(hAr ai).2.1;have h8:=(K.1 ai).n;have h9:=abQ apS (plies:=plies) aa h8 aa Q;refine And.intro ⟨by simp[tr],by simp[tr,bh];omega,by simp[tr,maxLen];omega⟩ ?_)|(refine aD rfl (tQ) ?_;rintro _ rfl)|(refine aD rfl (GS ln r U c sizes places plies R b lots (hAr ai).1 N C5 hlo hy O D) ?_;rintro _ ⟨n,rfl,K⟩)|(refine aD rfl (Bl ln r U c sizes places plies b poly N aJA aJz (i:Int) (j:Int) S g u k q x y P f pp hpq aJu aa (by simpa using hyi) aa MQ hg0 o) ?_;rintro _ ⟨p1,q1,G,s1,x1,d1,H,rfl,hh1,hh2⟩)|exact eL rfl (dy 6 rfl) (cv rfl) ⟨_,_,rfl,iff_of_false ai (λd=>absurd d.pe ai),λz=>absurd z ai,λ_=>rfl⟩|exact eL rfl (dy 6 rfl) (cv rfl) ⟨_,_,rfl,iff_of_false ai (λd=>absurd (K.2 d.sp) ai),λz=>absurd z ai,λ_=>rfl⟩|exact eL rfl (dy 6 rfl) (cv rfl) ⟨_,_,rfl,iff_of_false ai (aoN (i:=i) (j:=j) aa aa hyi hpo (λd=>absurd (hh1.2 d) ai)),λz=>absurd z ai,λ_=>rfl⟩|exact eL rfl (df rfl rfl (xs:=M) rfl aa) (cv rfl) ⟨_,_,rfl,iff_of_true rfl ⟨ai,K.1 ai,λa k F Z=>hha a k aa Z⟩,λ_=>by rw[cD rfl,hzs,show plies.length=i by omega],λh=>absurd rfl h⟩|(apply bp [2,5,10,13,14,39,40,43,44,45] [] [13,45] [(4,7),(8,6)] (RPb (iE ln r U c sizes places plies) b sizes places R plies i) (R.length) [bD 8 6 M.length,iV .i64 0];(iterate 3 exact ae);exact .cons (aL.aM (xs:=[iE ln r U c sizes places plies]) rfl _) (.cons (aL.aM (xs:=M) rfl _) .nil);exact⟨0,M,aa,rfl,rfl,rfl,by simpa[pV]using hzs,λk Z=>by omega⟩;rintro _ _ _ ⟨j,EW,Q,rfl,rfl,rfl,apS,hhb⟩)|(refine aI [2,5,10,13,14,39,40,43,44,45] [] ?_;(conv=>whnf);exact⟨rfl,_,[_,_],_,.cons (aL.aM (xs:=[iE ln r U c sizes places plies]) rfl _) (.cons (aL.aM (aL.snoc (xs:=EW) rfl [tI _,tI _,tI _,tI _,_,tB _]) _) .nil),RPb.next aa afv apS hhb hyi hpo MQ o (hh1.1 ai) (hh2 ai) iC,rfl,rfl,aa⟩)|(apply cL [2,5,10,13,39,40] [] [13,40] [(4,7),(8,6)] (RPa (iE ln r U c sizes places plies) b sizes places R plies) (plies.length) [bD 8 6 0,iV .i64 0] (eo.dQ 13 6 rfl);(iterate 3 exact ae);exact .cons (aL.aM (xs:=[iE ln r U c sizes places plies]) rfl _) (.cons (aL.aM aL.nil _) .nil);exact⟨0,[],aa,rfl,rfl,rfl,rfl,λa k F=>by omega⟩;rintro _ _ _ ⟨i,M,I,rfl,rfl,rfl,hzs,hha⟩)|(refine aI [2,5,10,13,39,40] [] ?_;(conv=>whnf);exact⟨rfl,_,[_,_],_,.cons (aL.aM (xs:=[iE ln r U c sizes places plies]) rfl _) (.cons (aL.aM (xs:=EW) rfl _) .nil),RPa.next aa (K.1 ai).n Q aa afv apS hha hhb,rfl,rfl,aa⟩))
structure Rn where
 sn:ByteArray
 (bk ms ps us ss os aH lots:Lz)
 (ln wd rx ry:Int)
 (sizes places plies bs gs ws xs:Lz)
 (r l:Int)
 eB:Lz
abbrev Rn.ts(r:Rn):Lt:=[.val (.string r.sn),.aO 1 r.bk,.aO 1 r.ms,.aO 7 r.ps,.aO 3 r.us,.aO 6 r.ss,.aO 5 r.os,.aO 7 r.aH,.aO 1 r.lots,tI r.ln,tI r.wd,tI r.rx,tI r.ry,.aO 1 r.sizes,.aO 7 r.places,.aO 2 r.plies,.aO 6 r.bs,.aO 5 r.gs,.aO 2 r.ws,.aO 4 r.xs,tI r.r,tI r.l,.aO 3 r.eB]
abbrev rE(r:Rn):W:= .agg [.t (.val (.string r.sn)),.t (.aO 1 r.bk),.t (.aO 1 r.ms),.t (.aO 7 r.ps),.t (.aO 3 r.us),.t (.aO 6 r.ss),.t (.aO 5 r.os),.t (.aO 7 r.aH),.t (.aO 1 r.lots),.t (tI r.ln),.t (tI r.wd),.t (tI r.rx),.t (tI r.ry),.t (.aO 1 r.sizes),.t (.aO 7 r.places),.t (.aO 2 r.plies),.t (.aO 6 r.bs),.t (.aO 5 r.gs),.t (.aO 2 r.ws),.t (.aO 4 r.xs),.t (tI r.r),.t (tI r.l),.t (.aO 3 r.eB)]
structure jk(r:Rn):Prop where
 hS:eu r.sn r.bk r.ms r.ps r.us r.ss r.os
 hz:Is r.sizes
 iF:r.sizes.length<=1000000
 hp:X3 r.places
 eX:r.places.length<=1000000
 hy:LA r.plies
 iI:r.plies.length<=1000000
 hB:∀e,e∈r.plies->(nL 1 e).length<=1000
 hR:TG r.aH
 C5:r.aH.length<=6
 hlo:Is r.lots
 aCW:r.lots.length<=1000
 hb:I4 r.bs
 pJ:r.bs.length<=1000
 hg:∀e,e∈r.gs->nc e
 vU:r.gs.length<=1000
 MX:∀e,e∈r.gs->(nL 4 e).length<=1000
 hw:∀e,e∈r.ws->Bv e
 ni:r.ws.length<=100
 hx:∀e,e∈r.xs->zO e
 LK:r.xs.length<=1000
 Ew:I3 r.eB
 VS:r.eB.length<=1000
def zS(r:Rn):Lz×Int:=pk 51 [dV r.sn r.bk r.ms r.ps r.us r.ss r.os] (λp=>[oL 3 p.1,oI p.2]) (λp=>I3 p.1/\p.1.length<=30000)
def nE(r:Rn)(l:eu r.sn r.bk r.ms r.ps r.us r.ss r.os): ∃ts,Fn Tryz.prog 51 [dV r.sn r.bk r.ms r.ps r.us r.ss r.os] [] (aR ts) []/\(aR ts).cR=true/\(ts=[oL 3 (zS r).1,oI (zS r).2]/\(I3 (zS r).1/\(zS r).1.length<=30000)):=by
 obtain⟨ts,O,Y,x,e,rfl,B⟩:=D1 r.sn r.bk r.ms r.ps r.us r.ss r.os l;exact lp (enc:=λp:Lz×Int=>[oL 3 p.1,oI p.2]) (Q:=λp=>I3 p.1/\p.1.length<=30000) ⟨(x,e),O,Y,B⟩
def mQ(xs:Lz):Lz:=xs.map λe=>[tI 2,tI (nI 0 e),tI (nI 1 e)]
def takeN{α:Type}{xs:List α}{i:Nat}{e:α}(h:xs[((i:Int)).toNat]? =some e):xs.take (i+1)=xs.take i++[e]:=by
 have N:xs[i]? =some e:=bc
 rw[abw,N];rfl
def zU{α:Type}{xs:List α}{i:Nat}(h:xs.length<=i):xs.take i=xs:=aac h
def RPt(xs:Lz)(m:Nat)(vs:List V)(w:List (Lz)):Prop:= ∃ (i:Nat) (M:Lz),i<=xs.length/\m=xs.length - i/\vs=[bD 4 3 M.length,iV .i64 (i:Int)]/\w=[M]/\M=mQ (xs.take i)
def G3(zs:Lz)(ts:Lw):Prop:=ts=[oL 3 zs]
def XH(r:Rn)(J:jk r):Tg 23 [rE r] (G3 (mQ (zS r).1)):=by
 refine aS ?_;refine aC Tryz.func23 ?_
 repeat' ((conv=>whnf);first|refine aJ (λh=>?_) (λh=>?_)|(refine aG (xs:=(zS r).1) z aa aa ?_;rintro _ ⟨a,b,c,rfl⟩ S)|(have N:M.length<=i:=(by rw[A];simp[mQ];omega);refine And.intro ⟨by simp[tr],by simp[tr,bh];omega,by simp[tr,maxLen];omega⟩ ?_)|(refine aD rfl (nE r J.hS) ?_;rintro _ ⟨rfl,z,U⟩)|exact nt rfl (df rfl rfl (xs:=M) rfl aa) (by rw[cD rfl,G3,A,zU aa])|(apply cL [3,14,15,16] [] [3,16] [(4,3)] (RPt (zS r).1) ((zS r).1.length) [bD 4 3 0,iV .i64 0] (eo.dQ 3 3 rfl);(iterate 3 exact ae);exact .cons (aL.aM aL.nil _) .nil;exact⟨0,[],aa,rfl,rfl,rfl,rfl⟩;rintro _ _ _ ⟨i,M,I,rfl,rfl,rfl,A⟩)|(refine aI [3,14,15,16] [] ?_;(conv=>whnf);exact⟨rfl,_,[_,_],_,.cons (aL.aM (aL.snoc (xs:=M) rfl [tI _,tI _,tI _]) _) .nil,⟨i+1,_,aa,rfl,by rw[bF aa aa];simp[tr],rfl,by rw[A,takeN S];simp[mQ,nI]⟩,rfl,rfl,aa⟩))
def jK(J F P xs:Lz)(i:Nat):Lz:=(List.range i).filterMap λj=>if oJ J F P xs j≠1 then some [tI 7,tI (j:Int),tI (oJ J F P xs j)]else none
def Z8{F:Lz}{i:Nat}(d:oJ J F P xs i≠1):jK J F P xs (i+1)=jK J F P xs i++[[tI 7,tI (i:Int),tI (oJ J F P xs i)]]:=by
 simp[jK,abf,d]
def Z7{F:Lz}{i:Nat}(d:oJ J F P xs i=1):jK J F P xs (i+1)=jK J F P xs i:=by
 simp[jK,abf,d]
def Oh(J F P xs:Lz)(i:Nat):(jK J F P xs i).length<=i:=by
 have:=acp (λj=>if oJ J F P xs j≠1 then some [tI 7,tI (j:Int),tI (oJ J F P xs j)]else none) (List.range i);simpa[jK]using this
abbrev Rn.jE(r:Rn):Int:=Vz r.sn r.bk r.ms r.ps r.us r.ss r.os r.bs r.ws r.xs
def RUp(r:Rn)(m:Nat)(vs:List V)(w:List (Lz)):Prop:= ∃ (i:Nat) (M:Lz),i<=r.xs.length/\m=r.xs.length - i/\vs=[bD 4 3 M.length,iV .i64 (i:Int)]/\w=[M]/\M=jK r.os r.ws r.bs r.xs i
def IE(r:Rn)(J:jk r)(Q:r.jE=0):Tg 28 [rE r] (G3 (jK r.os r.ws r.bs r.xs r.xs.length)):=by
 have G:=J.LK;have g:=CC r.os r.ws r.bs r.xs;refine aS ?_;refine aC Tryz.func28 ?_
 repeat' ((conv=>whnf);first|refine bZz (λh=>?_) (λh=>?_)|(refine aG (xs:=mL r.os r.ws r.bs r.xs) (Hj r.os r.ws r.bs r.xs) aa aa ?_;rintro _ ⟨v,rfl⟩ S;have z:=Hl S)|(have N:M.length<=i:=(by rw[A];exact Oh _ _ _ _ _);refine And.intro ⟨by simp[tr],by simp[tr,bh];omega,by simp[tr,maxLen];omega⟩ ?_)|(refine aD rfl (kj r.sn r.bk r.ms r.ps r.us r.ss r.os J.hS r.bs J.hb oa r.ws J.hw (by have:=J.ni;simp only[maxLen];omega) r.xs J.hx) ?_;rintro _ ⟨rfl,_⟩;rw[if_pos Q])|exact nt rfl (df rfl rfl (xs:=M) rfl aa) (by have F:i=r.xs.length:=aa;rw[cD rfl,G3,A,F])|(apply cL [5,20,21,22] [] [5,22] [(4,3)] (RUp r) (r.xs.length) [bD 4 3 0,iV .i64 0] (eo.dQ 5 3 rfl);(iterate 3 exact ae);exact .cons (aL.aM aL.nil _) .nil;exact⟨0,[],aa,rfl,rfl,rfl,rfl⟩;rintro _ _ _ ⟨i,M,I,rfl,rfl,rfl,A⟩)|(refine aI [5,20,21,22] [] ?_;(conv=>whnf);first|exact⟨rfl,_,[_,_],_,.cons (aL.aM (aL.snoc (xs:=M) rfl [tI _,tI _,tI _]) _) .nil,⟨i+1,_,aa,rfl,by rw[bF aa aa];simp[tr],rfl,by rw[A,Z8 aa,z]⟩,rfl,rfl,aa⟩|exact⟨rfl,_,[_,_],_,.cons (aL.aM (xs:=M) rfl _) .nil,⟨i+1,_,aa,rfl,by rw[bF aa aa];rfl,rfl,by rw[A,Z7 aa]⟩,rfl,rfl,aa⟩))
def ud(n m:Int):Int:=if m < (if -m > n then -m else n)then m else if -m > n then -m else n
def apJ{n m:Int}(h:0<=m): -m<=ud n m/\ud n m<=m:=by
 unfold ud;split<;>split<;>omega
def pE(n m:Int)(z:0<=m)(O:m<=1099511627776): ∃ts,Fn Tryz.prog 58 [oI n,oI m] [] (aR ts) []/\(aR ts).cR=true/\(λts=>ts=[oI (ud n m)]) ts:=by
 refine aS ?_;refine aC Tryz.func58 ?_
 repeat' ((conv=>whnf);first|exact nt rfl (cv rfl) (by rw[show IntKind.i64.wrap (0 - m)= -m from(bF aa aa).trans aa];rfl))
def zd(n:Int):Int:=ud n 1099511627776
def HF(n:Int): -1099511627776<=zd n/\zd n<=1099511627776:=apJ av
def iO(xs:Lz):Int:=(xs.map λe=>zd (nI 1 e)+zd (nI 2 e)).sum
def Mu(xs:Lz)(a b c:Int):iO (xs++[[tI a,tI b,tI c]])=iO xs+(zd b+zd c):=by
 simp[iO,nI]
def BC:∀xs:Lz, -(2199023255552 * (xs.length:Int))<=iO xs/\iO xs<=2199023255552 * (xs.length:Int)
 | []=>by simp[iO]
 |e::xs=>by
  have h:=BC xs;have O:=HF (nI 1 e);have Y:=HF (nI 2 e);simp only[iO,aaq,List.sum_cons,aaa]at h⊢;omega
def RSu(xs:Lz)(m:Nat)(vs:List V):Prop:= ∃i:Nat,i<=xs.length/\m=xs.length - i/\vs=[iV .i64 (iO (xs.take i)),iV .i64 (i:Int)]
def S1(xs:Lz)(hx:I3 xs)(U:xs.length<=100000): ∃ts,Fn Tryz.prog 59 [oL 3 xs] [] (aR ts) []/\(aR ts).cR=true/\(λts=>ts=[oI (iO xs)]) ts:=by
 refine aS ?_;refine aC Tryz.func59 ?_
 repeat' ((conv=>whnf);first|refine aJ (λh=>?_) (λh=>?_)|(refine aG (xs:=xs) hx aa aa ?_;rintro _ ⟨a,b,c,rfl⟩ S)|refine And.intro ag ?_|(refine aN rfl (pE b 1099511627776 av av) ?_;rintro _ rfl)|(refine aN rfl (pE c 1099511627776 av av) ?_;rintro _ rfl)|exact nt rfl (cv rfl) (by rw[zU aa])|(apply aV [3,6,7,8] [] [3,8] (RSu xs) (xs.length) [iV .i64 0,iV .i64 0];(iterate 3 exact ae);exact⟨0,aa,rfl,rfl⟩;rintro _ _ ⟨i,I,rfl,rfl⟩)|(refine aI [3,6,7,8] [] ?_;(conv=>whnf);exact⟨rfl,_,[_,_],⟨i+1,aa,rfl,by have O:=BC (xs.take i);have Y:=HF b;have B:=HF c;have g:(xs.take i).length<=100000:=gZ;rw[takeN S,Mu];unfold zd at Y B⊢;rw[bF (n:=ud b _+ud c _) aa aa,bF aa aa,bF aa aa];rfl⟩,rfl,rfl,rfl,aa⟩))
def RFl(id N:Nat)(pre a:List (Lz))(F:Nat->Lz)(m:Nat)(vs:List V)(w:List (Lz)):Prop:= ∃ (i:Nat) (M:Lz),i<=N/\m=N - i/\vs=[bD id 3 M.length,iV .i64 (i:Int)]/\w=pre++M::a/\M=F i
def CtR(n:Nat)(e:Lt):Prop:= ∃p q l s v d,e=[tI p,tI q,tI l,tI s,.aO 1 [[tI v]],tB d]/\0<=v/\v < (n:Int)
def Tm(lots:Lz)(i:Nat)(F k v:Int):Lz:=if nI 0 ((lots[v.toNat]?).getD [])≠F then [[tI 4,tI (i:Int),tI k]]else []
def Rh(lots cuts:Lz)(i:Nat)(F:Int)(e:Lt):Lz:=if 0<=nI 0 e/\nI 0 e < (cuts.length:Int)then Tm lots i F (nI 0 e) (nI 0 ((nL 4 ((cuts[(nI 0 e).toNat]?).getD []))[0]?.getD []))else []
def Jw(lots cuts:Lz)(i:Nat)(g:Lt):Lz:=(nL 4 g).flatMap (Rh lots cuts i (nI 3 g))
def zY(lots cuts gs:Lz)(n:Nat):Lz:=(List.range n).flatMap λi=>Jw lots cuts i ((gs[i]?).getD [])
def OC(lots:Lz)(i:Nat)(F k v:Int):(Tm lots i F k v).length<=1:=by unfold Tm;split<;>simp
def OB(lots cuts:Lz)(i:Nat)(F:Int)(e:Lt):(Rh lots cuts i F e).length<=1:=by
 unfold Rh;split
 . exact OC _ _ _ _ _
 . simp
def zx{α:Type}{f:α->Lz}{b:Nat}:∀ {xs:List α},(∀e,e∈xs->(f e).length<=b)->(xs.flatMap f).length<=xs.length * b
 | [],_=>ak
 |x::xs,h=>by
  have O:=h x ak;have Y:=zx (xs:=xs) (f:=f) (b:=b) λe H=>h e (by simp[H]);simp only[acn,XV,aaa,aaw];omega
def OA(hg:∀e,e∈gs->(nL 4 e).length<=100)(n:Nat):(zY lots cuts gs n).length<=n * 100:=by
 have h:=zx (f:=λi=>Jw lots cuts i ((gs[i]?).getD [])) (b:=100) (xs:=List.range n) λi _=>by
  have O:=zx (f:=Rh lots cuts i (nI 3 ((gs[i]?).getD []))) (b:=1) (xs:=nL 4 ((gs[i]?).getD [])) λe _=>OB _ _ _ _ _
  have Y:(nL 4 ((gs[i]?).getD [])).length<=100:=by
   cases hi:gs[i]? with
   |none=>simp[nL]
   |some e=>exact hg e (oo hi)
  unfold Jw;omega
 simpa[zY]using h
def Ux{i:Nat}{t p:Int}(S:gs[((i:Int)).toNat]? =some (fm t p s l ks)):zY lots cuts gs (i+1)=zY lots cuts gs i++ks.flatMap (Rh lots cuts i l):=by
 have N:gs[i]? =some (fm t p s l ks):=aA
 simp only[zY,abf,ad3,acn,afa,aa9,N,YJ];rfl
def shJ(lots cuts gs ks:Lz)(i:Nat)(l:Int)(j:Nat):Lz:=zY lots cuts gs i++(ks.take j).flatMap (Rh lots cuts i l)
def aaP(hg:∀e,e∈gs->(nL 4 e).length<=100){i:Nat}(Z:ks.length<=100):(shJ lots cuts gs ks i l j).length<=i * 100+100:=by
 have O:=OA (lots:=lots) (cuts:=cuts) hg i;have Y:=zx (f:=Rh lots cuts i l) (b:=1) (xs:=ks.take j) λe _=>OB _ _ _ _ _;simp only[shJ,XV,aab]at Y⊢;omega
def Jv{i:Nat}{k:Int}(S:ks[((j:Int)).toNat]? =some [tI k]):shJ lots cuts gs ks i l (j+1)=shJ lots cuts gs ks i l j++Rh lots cuts i l [tI k]:=by
 simp[shJ,takeN S]
def aaO{i:Nat}{k:Int}(h:¬ (0<=k/\k < (cuts.length:Int))):Rh lots cuts i l [tI k]=[]:=by
 exact if_neg h
def anM{i:Nat}{k p q c:Int}{d:Bool}(h:cuts[k.toNat]? =some [tI p,tI q,tI c,tI s,.aO 1 [[tI v]],tB d])(z:0<=k)(O:k < (cuts.length:Int)):Rh lots cuts i l [tI k]=Tm lots i l k v:=by
 unfold Rh;rw[if_pos ⟨z,O⟩];show Tm lots i l k (nI 0 ((nL 4 ((cuts[k.toNat]?).getD []))[0]?.getD []))=_;rw[h];rfl
def aaS{i:Nat}{k x:Int}(h:lots[v.toNat]? =some [tI x])(hx:x≠l):Tm lots i l k v=[[tI 4,tI (i:Int),tI k]]:=by
 unfold Tm;rw[h];exact if_pos hx
def aaR{i:Nat}{k x:Int}(h:lots[v.toNat]? =some [tI x])(hx:x=l):Tm lots i l k v=[]:=by
 unfold Tm;rw[h];exact if_neg λh=>h hx
def shQ(lots cuts gs ks:Lz)(i:Nat)(l k v:Int)(j:Nat)(q:Nat):Lz:=shJ lots cuts gs ks i l j++(if q=0 then []else Tm lots i l k v)
def aaM(hg:∀e,e∈gs->(nL 4 e).length<=100){i:Nat}{k:Int}{q:Nat}(Z:ks.length<=100):(shQ lots cuts gs ks i l k v j q).length<=i * 100+101:=by
 have O:=aaP (lots:=lots) (cuts:=cuts) (l:=l) (j:=j) (i:=i) hg Z;have Y:=OC lots i l k v;unfold shQ;split<;>simp<;>omega
def IF(r:Rn)(J:jk r)(vU:r.gs.length<=1000)(MX:∀e,e∈r.gs->(nL 4 e).length<=100)(cuts:Lz)(D:∀e,e∈cuts->CtR r.lots.length e)(y:cuts.length<=100000):Tg 25 [rE r,oL 6 cuts] (G3 (zY r.lots cuts r.gs r.gs.length)):=by
 refine aS ?_;refine aC Tryz.func25 ?_
 repeat' ((conv=>whnf);first|refine bZz (λh=>?_) (λh=>?_)|(refine aG (xs:=r.gs) J.hg aa aa ?_;rintro _ ⟨g,b,l,F,w,rfl,a,P⟩ S;have K:w.length<=100:=MX _ (oo S))|(refine aG (xs:=w) a aa aa ?_;rintro _ ⟨k,rfl⟩ O)|(refine aG (xs:=cuts) D aa aa ?_;rintro _ ⟨cp,cq,cl,R,v,cd,rfl,Z,L⟩ z)|(have H:q5=0:=(by have:(q5:Int) < 1:=ai;omega);subst H;refine And.intro aa ⟨[tI v],rfl,?_⟩)|(refine aG (xs:=r.lots) J.hlo aa aa ?_;rintro _ ⟨s,rfl⟩ B)|(have N:c.length<=i * 100+101:=(by rw[n];exact aaM MX K);refine And.intro ⟨by simp[tr],by simp[tr,bh];omega,by simp[tr,maxLen];omega⟩ ?_)|refine And.intro ag ?_|exact nt rfl (df rfl rfl (xs:=M) rfl aa) (by have U:i=r.gs.length:=aa;rw[cD rfl,G3,A,U])|(have Y:=z;clear Y;apply bp [1,2,5,6,7,9,13,14,15,21,22,23,39,40,41] [] [5,41] [(4,23),(8,3),(12,5)] (RFl 8 1 [[r.ts]] [[fm g b l F w]] (shQ r.lots cuts r.gs w i F k v j)) (1) [bD 8 3 o.length,iV .i64 0];(iterate 3 exact ae);exact .cons (aL.aM (xs:=[r.ts]) rfl _) (.cons (aL.aM (xs:=o) rfl _) (.cons (aL.aM (xs:=[fm g b l F w]) rfl _) .nil));exact⟨0,o,aa,rfl,rfl,rfl,by simp[shQ,x]⟩;rintro _ _ _ ⟨q5,c,d,rfl,rfl,rfl,n⟩)|(have Y:=d;clear Y;refine aI [1,2,5,6,7,9,13,14,15,21,22,23,39,40,41] [] ?_;(conv=>whnf);first|exact⟨rfl,_,[_,_],_,.cons (aL.aM (xs:=[r.ts]) rfl _) (.cons (aL.aM (aL.snoc (xs:=c) rfl [tI _,tI _,tI _]) _) (.cons (aL.aM (xs:=[fm g b l F w]) rfl _) .nil)),⟨1,_,aa,rfl,by rw[bF aa aa];simp[tr],rfl,by rw[n,shQ,shQ,if_pos aa,if_neg aa,aaS B ai,aa9]⟩,rfl,rfl,aa⟩|exact⟨rfl,_,[_,_],_,.cons (aL.aM (xs:=[r.ts]) rfl _) (.cons (aL.aM (xs:=c) rfl _) (.cons (aL.aM (xs:=[fm g b l F w]) rfl _) .nil)),⟨1,_,aa,rfl,by rw[bF aa aa];simp,rfl,by rw[n,shQ,shQ,if_pos aa,if_neg aa,aaR B aa]⟩,rfl,rfl,aa⟩)|(have Y:=S;clear Y;apply bp [1,2,5,6,7,13,14,15,21,22,23] [] [5,23] [(4,23),(8,3),(12,5)] (RFl 8 w.length [[r.ts]] [[fm g b l F w]] (shJ r.lots cuts r.gs w i F)) (w.length) [bD 8 3 M.length,iV .i64 0];(iterate 3 exact ae);exact .cons (aL.aM (xs:=[r.ts]) rfl _) (.cons (aL.aM (xs:=M) rfl _) (.cons (aL.aM (xs:=[fm g b l F w]) rfl _) .nil));exact⟨0,M,aa,rfl,rfl,rfl,by simp[shJ,A]⟩;rintro _ _ _ ⟨j,o,Q,rfl,rfl,rfl,x⟩)|(have Y:=Q;clear Y;refine aI [1,2,5,6,7,13,14,15,21,22,23] [] ?_;(conv=>whnf);first|exact⟨rfl,_,[_,_],_,.cons (aL.aM (xs:=[r.ts]) rfl _) (.cons (aL.aM (xs:=o) rfl _) (.cons (aL.aM (xs:=[fm g b l F w]) rfl _) .nil)),⟨j+1,_,aa,rfl,by rw[bF aa aa];rfl,rfl,by rw[x,Jv O,aaO aa,aa9]⟩,rfl,rfl,aa⟩|exact⟨rfl,_,[_,_],_,.cons (aL.aM (xs:=[r.ts]) rfl _) (.cons (aL.aM (xs:=c) rfl _) (.cons (aL.aM (xs:=[fm g b l F w]) rfl _) .nil)),⟨j+1,_,aa,rfl,by rw[bF aa aa];rfl,rfl,by rw[n,Jv O,anM z aa aa,shQ,if_neg (by have G:¬ (q5:Int) < 1:=ai;omega)]⟩,rfl,rfl,aa⟩)|(apply cL [1,2,5,13,14,15] [] [5,15] [(4,23),(8,3)] (RFl 8 r.gs.length [[r.ts]] [] (zY r.lots cuts r.gs)) (r.gs.length) [bD 8 3 0,iV .i64 0] (eo.dQ 5 3 rfl);(iterate 3 exact ae);exact .cons (aL.aM (xs:=[r.ts]) rfl _) (.cons (aL.aM aL.nil _) .nil);exact⟨0,[],aa,rfl,rfl,rfl,rfl⟩;rintro _ _ _ ⟨i,M,I,rfl,rfl,rfl,A⟩)|(refine aI [1,2,5,13,14,15] [] ?_;(conv=>whnf);exact⟨rfl,_,[_,_],_,.cons (aL.aM (xs:=[r.ts]) rfl _) (.cons (aL.aM (xs:=o) rfl _) .nil),⟨i+1,_,aa,rfl,by rw[bF aa aa];rfl,rfl,by rw[x,Ux S,shJ,zU aa]⟩,rfl,rfl,aa⟩))
def J7(a b:Int):Value:= .agg #[.int .i64 a,.int .i64 b]
def KSp(v:Value):Prop:= ∃a b,v=J7 a b
def Ul: ∃d,Tryz.prog.underlying 147=some (.struct d):=by
 have h:(match Tryz.prog.underlying 147 with|some (.struct _)=>true|_=>false)=true:=ag
 split at h
 . rename_i d S;exact⟨d,S⟩
 . simp at h
def CO{c d:Int}:J7 a b=J7 c d↔a=c/\b=d:=by
 simp[J7]
def kSp:eK Tryz.prog 147 KSp:=by
 obtain⟨d,S⟩:=Ul;refine FD S ?_ ?_ ?_ ?_
 . rintro e _ ⟨a,b,rfl⟩;exact⟨(),by cases e<;>kernel_rfl⟩
 . rintro _ _ ⟨a,b,rfl⟩ ⟨G,K,rfl⟩;rfl
 . rintro _ _ ⟨a,b,rfl⟩ ⟨G,K,rfl⟩;have h:=(nK (P:=Tryz.prog) (t:=147) (ks:=[0,0]) (cs:=[.t (tI a),.t (tI b)]) (ds:=[.t (tI G),.t (tI K)]) (vs:=[.int .i64 a,.int .i64 b]) (us:=[.int .i64 G,.int .i64 K]) (b:=(a==G)&& ((b==K)&&true)) ag rfl rfl rfl).1;refine⟨_,h,?_⟩;rw[CO];simp only[afn,LD,beq_iff_eq];exact⟨λ⟨p,q⟩=>⟨p.symm,q.symm⟩,λ⟨p,q⟩=>⟨p.symm,q.symm⟩⟩
 . rintro _ ⟨a,b,rfl⟩;simp[Instr.sameBits,J7]
def uMB:Tryz.prog.underlying 145=some (.map 147 4):=ag
def zB5:ny Tryz.prog 4=some (.bool false):=ag
def kG(g:Lt):Value:=J7 (nI 0 g) (nI 1 g)
structure TM(L:Lz)(es:cF):Prop where
 a:∀p,p∈es->p.2.1= .t (tB true)/\ ∃g,g∈L/\p.1=kG g
 b:∀g,g∈L-> ∃p,p∈es/\p.1=kG g
def TM.nil:TM [] []:=⟨λp F=>by simp at F,λg D=>by simp at D⟩
def TM.all{i:Nat}(h:TM (L.take i) es)(I:L.length<=i):TM L es:=by rwa [zU I]at h
def TM.keys(h:TM L es):∀p,p∈es->KSp p.1:=λp F=>by
 obtain⟨_,g,_,O⟩:=h.a p F;exact⟨_,_,O⟩
def TM.aM{L:Lz}{es:cF}(h:TM L es)(f:Nat->Option Nat):TM L (es.map λp=>(p.1,C.aM f p.2.1,p.2.2)):=by
 refine⟨λp F=>?_,λg D=>?_⟩
 . obtain⟨q,d,rfl⟩:=aad.1 F;obtain⟨O,Y⟩:=h.a q d;exact⟨by simp only[O];rfl,Y⟩
 . obtain⟨p,F,O⟩:=h.b g D;exact⟨_,aad.2 ⟨p,F,rfl⟩,O⟩
def TM.put{es':cF}{ck a:Nat}(h:TM L es)(hp:DM es ck (kG e) (.t (tB true)) es' a):TM (L++[e]) es':=by
 rcases hp with⟨i,c,O,Y,rfl,_⟩|⟨_,rfl,_⟩
 . have l:=(jl.1 O).1;refine⟨λp r=>?_,λg D=>?_⟩
   . rcases aao r with r|rfl
     . obtain⟨s,g,v,z⟩:=h.a p r;exact⟨s,g,acd _ v,z⟩
     . exact⟨rfl,e,ak,rfl⟩
   . rcases yl.1 D with D|D
     . obtain⟨p,hp,s⟩:=h.b g D;obtain⟨j,Q,rfl⟩:=ab9.1 hp
       by_cases A:i=j
       . subst A;rw[YI Q,ii]at O;exact⟨(kG e,.t (tB true),c.2.2),abq.2 ⟨i,by rw[aaj Q]⟩,by rw[<-s,O,Y]⟩
       . exact⟨es[j],abq.2 ⟨j,by rw[aam A,YI Q]⟩,s⟩
     . simp only[vv]at D;subst D;exact⟨(kG g,.t (tB true),c.2.2),abq.2 ⟨i,by rw[aaj l]⟩,rfl⟩
 . refine⟨λp r=>?_,λg D=>?_⟩
   . rcases yl.1 r with r|r
     . obtain⟨s,g,v,z⟩:=h.a p r;exact⟨s,g,acd _ v,z⟩
     . simp only[vv]at r;subst r;exact⟨rfl,e,ak,rfl⟩
   . rcases yl.1 D with D|D
     . obtain⟨p,hp,s⟩:=h.b g D;exact⟨p,acd _ hp,s⟩
     . simp only[vv]at D;subst D;exact⟨_,aby _ (vv.2 rfl),rfl⟩
def sY(L:Lz)(a b:Int):Bool:=L.any λg=>decide (nI 0 g=a)&&decide (nI 1 g=b)
def xE:sY L a b=true↔ ∃g,g∈L/\kG g=J7 a b:=by
 simp only[sY,ae9,LD,decide_eq_true_eq,kG,CO]
def ZT{ctr:Nat}{ty:TypeId}{m k:Operand}{tm:TS}{hp:HS}{id clock:Nat}{K:V->HS->Prop}(r:Gt n tm m= .w (.one (.map id)))(R:find hp id=some (.mp es clock))(Z:(Gt n tm k).val? =some (J7 a b))(j:TM L es)
 (h:K (.w (.one (.t (tB (sY L a b))))) hp): ∃v hp',jA Tryz.prog n (.lookup 145 m k false) ty tm hp ctr v hp'/\K v hp':=by
 refine Gr r R Z uMB zB5 kSp ⟨_,_,rfl⟩ j.keys (λq p I c=>?_) (λD=>?_)
 . obtain⟨g1,g,g2,z⟩:=j.a p (oo I);rw[g1];have:sY L a b=true:=xE.2 ⟨g,g2,by rw[<-z,c]⟩;rw[this]at h;exact h
 . have:sY L a b=false:=by
    cases hh:sY L a b with
    |false=>rfl
    |true=>
     obtain⟨g,g2,z⟩:=xE.1 hh;obtain⟨p,hp,o⟩:=j.b g g2;exact absurd (o.trans z) (D p hp)
   rw[this]at h;exact h
def Hy(F:Int->Int->Bool)(acc:Lz)(t g f:Int)(q:Nat):Lz:=(List.range q).flatMap λ(k:Nat)=>if sY acc t (f+k)=false/\F g (f+k)=true then [[tI 5,tI t,tI (f+k)]]else []
def wx(F:Int->Int->Bool)(acc P:Lz)(n:Nat):Lz:=(List.range n).flatMap λi=>match P[i]? with
 |some e=>Hy F acc (nI 0 e) (nI 1 e) (nI 4 e) (nI 5 e - nI 4 e).toNat|none=>[]
def OY(F:Int->Int->Bool)(acc:Lz)(t g f:Int)(q:Nat):(Hy F acc t g f q).length<=q:=by
 have h:=zx (f:=λ(k:Nat)=>if sY acc t (f+k)=false/\F g (f+k)=true then [[tI 5,tI t,tI (f+k)]]else []) (b:=1) (xs:=List.range q) λk _=>by split<;>simp
 simpa[Hy]using h
def OX(G:∀e,e∈P->ZD sizes plies e)(n:Nat):(wx F acc P n).length<=n * plies.length:=by
 have h:=zx (f:=λi=>match P[i]? with
  |some e=>Hy F acc (nI 0 e) (nI 1 e) (nI 4 e) (nI 5 e - nI 4 e).toNat
  |none=>[]) (b:=plies.length) (xs:=List.range n) λi _=>by
  cases hi:P[i]? with
  |none=>simp
  |some e=>
   obtain⟨t,g,s,l,f,o,rfl,_,O,Y,B⟩:=G e (oo hi);have:=OY F acc t g f (o - f).toNat;show(Hy F acc t g f (o - f).toNat).length<=_;omega
 simpa[wx]using h
def aIG(G:∀e,e∈P->ZD sizes plies e)(hp:plies.length<=40){q:Nat}{t f:Int}(K:n<=1000)(hq:q<=40):(wx F acc P n++Hy F acc t g f q).length<=40040:=by
 have O:=OX (F:=F) (acc:=acc) G n;have Y:=OY F acc t g f q;have B:n * plies.length<=1000 * 40:=adS K hp;simp only[XV];omega
def Vp{i:Nat}{t f o:Int}(h:P[((i:Int)).toNat]? =some (mw t g s l f o)):wx F acc P (i+1)=wx F acc P i++Hy F acc t g f (o - f).toNat:=by
 have N:P[i]? =some (mw t g s l f o):=bc
 simp only[wx,abf,ad3,acn,afa,aa9,N];rfl
def acG{t f:Int}{q:Nat}(O:(!sY acc t (f+q))=true)(Y:F g (f+q)=true):Hy F acc t g f (q+1)=Hy F acc t g f q++[[tI 5,tI t,tI (f+q)]]:=by
 have O:sY acc t (f+q)=false:=rW
 simp[Hy,abf,O,Y]
def acF{t f:Int}{q:Nat}(h:(!sY acc t (f+q))=false\/F g (f+q)=false):Hy F acc t g f (q+1)=Hy F acc t g f q:=by
 rcases h with h|h
 . have h:sY acc t (f+q)=true:=bc
   simp[Hy,abf,h]
 . simp[Hy,abf,h]
abbrev TE(r:Rn)(cuts:Lz)(g p:Int):Bool:=(JR r.sizes r.places r.plies cuts g p).isSome
def RM1(r:Rn)(L:Lz)(m:Nat)(vs:List V)(hq:HS):Prop:= ∃ (i:Nat) (B:cF) (c:Nat),i<=L.length/\m=L.length - i/\vs=[iV .i64 (i:Int)]/\TM (L.take i) B/\hq=[(4,.row 23 [r.ts.map C.t]),(8,.mp B c)]
def RM2(r:Rn)(F:Int->Int->Bool)(L:Lz)(m:Nat)(vs:List V)(hq:HS):Prop:= ∃ (i:Nat) (B:cF) (c:Nat) (M:Lz) (v:Lq),i<=r.bs.length/\m=r.bs.length - i/\vs=[bD 12 3 M.length,iV .i64 (i:Int)]/\TM L B/\aL v M/\M=wx F L r.bs i/\hq=[(4,.row 23 [r.ts.map C.t]),(8,.mp B c),(12,.row 3 v)]
def RM3(r:Rn)(F:Int->Int->Bool)(L:Lz)(i:Nat)(t g s l f o:Int)(m:Nat)(vs:List V)(hq:HS):Prop:= ∃ (q:Nat) (B:cF) (c:Nat) (M:Lz) (v:Lq),f+q<=o/\m=(o - (f+q)).toNat/\vs=[bD 12 3 M.length,iV .i64 (f+q)]/\TM L B/\aL v M/\M=wx F L r.bs i++Hy F L t g f q/\hq=[(4,.row 23 [r.ts.map C.t]),(8,.mp B c),(12,.row 3 v),(16,.row 6 [(mw t g s l f o).map C.t])]
def EK(r:Rn)(J:jk r)(Z:r.plies.length<=40)(hbd:∀e,e∈r.bs->ZD r.sizes r.plies e)(R:AF r.sizes r.places r.plies)(cuts:Lz)(D:Jb cuts)(P:cuts.length<=100000)(acc:Lz)(w:∀e,e∈acc->nc e)(hal:acc.length<=1000):Tg 26 [rE r,oL 6 cuts,oL 5 acc] (G3 (wx (TE r cuts) acc r.bs r.bs.length)):=by
 have Q:=J.pJ;refine aS ?_;refine aC Tryz.func26 ?_
 repeat' ((conv=>whnf);first|refine bZz (λh=>?_) (λh=>?_)|(refine aG (xs:=acc) w aa aa ?_;rintro _ ⟨gt,gp,gz,z,K,rfl,hks,hkm⟩ S)|(refine aG (xs:=r.bs) hbd aa aa ?_;rintro _ ⟨t,g,s,l,f,o,rfl,⟨U,hg1⟩,hf0,LL,y⟩ O)|(have G:H.length<=40040:=(by rw[x];exact aIG hbd Z aa aa);refine And.intro ⟨N.len.symm,by rw[N.len];simp[bh];omega,by rw[N.len];simp[maxLen];omega⟩ ?_)|(refine aD rfl (xZ r.sn r.bk r.ms r.ps r.us r.ss r.os r.ln r.wd r.rx r.ry r.sizes r.places r.plies R cuts D bq g (f+q)) ?_;rintro _ ⟨bx,rfl,hbx⟩;obtain rfl:bx=TE r cuts g (f+q):=hbx U hg1 aa aa)|refine jq ?_|(refine TL rfl rfl rfl (.inl rfl) uMB kSp ⟨_,_,rfl⟩ j.keys ?_;rintro es' F hput)|refine ZT (a:=t) (b:=f+q) rfl rfl rfl j ?_|exact nt rfl (df rfl rfl (xs:=M) N aa) (by have e9:i=r.bs.length:=aa;rw[cD rfl,G3,A,e9])|(have Y:=O;clear Y;apply gh [1,3,7,10,12,13,29,30,31] [] [10,13] (RM3 r (TE r cuts) acc i t g s l f o) ((o - f).toNat) [bD 12 3 M.length,iV .i64 f];(iterate 3 exact ae);exact⟨0,_,_,M,_,aa,aa,ak,j.aM _,N.aM _,by simp[A,Hy],rfl⟩;rintro _ _ _ ⟨q,B,c,H,v,d,rfl,rfl,j,N,x,rfl⟩)|(have Y:=x;clear Y;refine aI [1,3,7,10,12,13,29,30,31] [] ?_;(conv=>whnf);first|exact⟨rfl,_,[_,_],⟨q+1,_,_,H++[[tI 5,tI t,tI (f+q)]],_,aa,rfl,by rw[bF aa aa];simp[N.len];omega,j.aM _,(aL.snoc N [tI _,tI _,tI _]).aM _,by rw[x,acG ai ai,aaQ],rfl⟩,rfl,rfl,aa⟩|exact⟨rfl,_,[_,_],⟨q+1,_,_,H,_,aa,rfl,by rw[bF aa aa];simp;omega,j.aM _,N.aM _,by rw[x,acF (by first|exact .inl ai|exact .inr ai)],rfl⟩,rfl,rfl,aa⟩)|(apply pM [1,3,7,10,29,30,31] [] [10,31] (RM2 r (TE r cuts) acc) (r.bs.length) [bD 12 3 0,iV .i64 0] (eo.dQ 10 3 rfl);(iterate 3 exact ae);exact⟨0,_,_,[],_,aa,rfl,rfl,(j.all aa).aM _,aL.aM aL.nil _,rfl,rfl⟩;rintro _ _ _ ⟨i,B,c,M,v,I,rfl,rfl,j,N,A,rfl⟩)|(have Y:=x;clear Y;refine aI [1,3,7,10,29,30,31] [] ?_;(conv=>whnf);exact⟨rfl,_,[_,_],⟨i+1,_,_,H,_,aa,rfl,by rw[bF aa aa];rfl,j.aM _,N.aM _,by rw[x,Vp O];congr 2;omega,rfl⟩,rfl,rfl,aa⟩)|(apply gh [1,3,7,15,16,17] [] [17] (RM1 r acc) (acc.length) [iV .i64 0];(iterate 3 exact ae);exact⟨0,_,_,aa,rfl,rfl,(by rw[afi];exact TM.nil),rfl⟩;rintro _ _ _ ⟨n,B,c,L,rfl,rfl,j,rfl⟩)|(have Y:=hput;clear Y;refine aI [1,3,7,15,16,17] [] ?_;(conv=>whnf);exact⟨rfl,_,[_],⟨n+1,_,_,aa,rfl,by rw[bF aa aa];rfl,(by rw[takeN S];exact(j.put hput).aM _),rfl⟩,rfl,rfl,aa⟩))
end Go.aW.Cd
namespace Go.aW
open Go
variable{P:Program}{M A:agt}{ρ:Env}{F:agt}{st:St}{a:Act}{w:World}
variable{ctr id clock b nn sz n:Nat}{kt ty S:TypeId}{mk:Nat->Nat->C}{tk:Nat->Int}{U:Int}
def eo.aKR{tm:TS}{hp:HS}{es es':cF}(R:find hp id=some (.mp es clock))(U:es'.length=es.length)
 (h:∀ (i:Nat) (k:Value) (c:C) (b:Nat),es'[i]? =some (k,c,b)-> ∃q sz ys,es[i]? =some (k,.own q sz 0 ys.length,b)/\find hp q=some (.row sz (tr ys))/\q≠id/\c= .t (.aO sz ys)):
 eo tm hp ctr tm [(id,.mp es' clock)] ctr:=by
 intro M A ρ n a w J
 let B:Nat->Prop:=λb=>A b/\ ∀q,(∃ (i:Nat) (k:Value) (sz len:Nat) (b:Nat),es[i]? =some (k,.own q sz 0 len,b)/\ ∃ys,find hp q=some (.row sz (tr ys))/\q≠id)->ρ q≠some (.gD b)
 have S:Rel M B ρ (bJ ctr) ⟨n,tm,[(id,.mp es clock)]⟩ a w:=Rel.shrink (hp:=[(id,.mp es clock)]) J (λb G=>G.1) (λk b Z=>by
  simp only[aF]at Z;split at Z
  . rename_i e;subst e;rw[<-Z];exact R
  . simp[find]at Z) (λk L b Z d=>by
  simp only[aF]at Z;split at Z
  . rename_i e;subst e;refine⟨(Rel.own J R d).2.1,?_⟩;rintro q ⟨_,_,sz,_,_,_,ys,O,Y⟩ D;exact Y (J.inj q id _ _ b O R D d)
  . simp[find]at Z)
 refine⟨B,ρ,⟨S.size,S.defers,S.tmps,λEt L G=>?_,λid1 Et b1 b2 b O Y y j=>?_,S.fresh,S.bound,S.may,S.dR⟩,jm.refl _,λb r P=>⟨r,?_⟩,λb _ G=>G.1⟩
 . simp only[aF]at G;split at G
   . rename_i e;subst e;simp only[ii]at G;subst G;obtain⟨b,Q,g1,g2,g3,g4,g5,g6⟩:=S.heap id (.mp es clock) agn;refine⟨b,Q,g1,g2,g3,g4,by rw[g5,U],λi k c K I=>?_⟩;obtain⟨q,sz,ys,s,v,g,rfl⟩:=h i k c K I;obtain⟨e,H,o,l,_,e5⟩:=g6 i k _ K s;obtain⟨b0,en0,f1,f2,f3,f4,f5,f6⟩:=J.heap id _ R;rw[g1]at f1;simp only[ii,Loc.gD.injEq]at f1;subst f1;rw[g4]at f4;simp only[ii,Obj.map.injEq]at f4;obtain⟨rfl,_⟩:=f4;obtain⟨F,d1,d2,d3,d4,d5⟩:=f6 i k _ K s;rw[H]at d1;simp only[ii]at d1;subst d1
     have N:cz e.val=true:=by
      rcases d5 with d5|d5
      . exact d5
      . simp[C.Kb]at d5
     refine⟨e,H,o,l,?_,.inl N⟩
     have z:=Rel.forget J (st':=⟨n,tm,[(q,.row sz (tr ys))]⟩) rfl (λ_ _ h=>h) (λk b G=>by
      simp only[aF]at G;split at G
      . rename_i F;subst F;rw[<-G];exact v
      . simp[find]at G)
     have hfz:cA 6 [(q,bE.row sz (tr ys))] (.own q sz 0 ys.length)=some (.aO sz ys):=by
      have h:=kO (hp:=[(q,bE.row sz (tr ys))]) (id:=q) (sz:=sz) (rows:=tr ys) (xs:=ys) (i:=0) (len:=ys.length) agn rfl aa;simp only[bM,jU]at h;obtain⟨t,O,Y⟩:=h;injection Y with Y;injection Y with Y;rw[O,Y];simp
     exact qt z (B:=B) (λb G=>G.1) (λk0 L b Z d x=>by
      simp only[aF]at Z;split at Z
      . rename_i F;subst F;exact x.2 q ⟨i,k,sz,ys.length,K,s,ys,v,g⟩ d
      . simp[find]at Z) hfz d4
   . simp[find]at G
 . simp only[aF]at O Y;split at O
   . rename_i H;split at Y
     . rename_i o;exact H.symm.trans o
     . simp[find]at Y
   . simp[find]at O
 . rintro q ⟨_,_,sz,_,_,_,ys,O,Y⟩ D;exact P (Rel.own J O D).1
def RU{k l q:Nat}(e:Bool)(J:eK P kt mz)(Q:ru tk l)(hq:q < l)(j:tk q=U):
 iY P e kt (.int .i64 U) (bQ mk k l tk)=some (some q)/\(bQ mk k l tk)[q]? =some (.int .i64 U,mk (nm k q) q,q):=by
 rcases J.at_ (bQ mk k l tk) (.int .i64 U) e nw ⟨_,rfl⟩with⟨_,Y⟩|⟨i,p,O,Y,B⟩
 . exact absurd (by rw[j]) (Y (.int .i64 (tk q),mk (nm k q) q,q) afr)
 . obtain⟨g,rfl⟩:=xO Y;simp only[Value.int.injEq,true_and]at B;have e:i=q:=Q i q g hq (B.trans j.symm);subst e;exact⟨O,by rw[Y,B]⟩
def CP{k l:Nat}(e:Bool)(J:eK P kt mz)(D:∀j,j < l->tk j≠U):
 iY P e kt (.int .i64 U) (bQ mk k l tk)=some none:=by
 rcases J.at_ (bQ mk k l tk) (.int .i64 U) e nw ⟨_,rfl⟩with⟨O,_⟩|⟨i,p,_,Y,B⟩
 . exact O
 . obtain⟨g,rfl⟩:=xO Y;simp only[Value.int.injEq,true_and]at B;exact absurd B (D i g)
def TU{a:Nat}{t:TypeId}{tm:TS}{hp:HS}{k:Nat}{K:V->HS->Prop}(r:find tm a=some (.w (.one (.map id))))(hx:find tm b=some (iV .i64 U))(R:find hp id=some (.mp (bQ mk k nn tk) clock))
 (L:P.underlying t=some (.map kt S)) (J:eK P kt mz) (Q:ru tk nn) (hq:k < nn) (j:tk k=U) (Z:K (.w (cw (mk lit k))) hp):
 ∃v hp',YB P (.lookup t (.tmp a) (.tmp b) false) ty tm hp ctr v hp'/\K v hp':=
 N7 r hx R L J Q hq j (by rw[show nm k k=lit from if_pos rfl];exact Z)
def TR{a:Nat}{t:TypeId}{tm:TS}{hp:HS}{k:Nat}{z:Value}{K:V->HS->Prop}(r:find tm a=some (.w (.one (.map id))))(hx:find tm b=some (iV .i64 U))(R:find hp id=some (.mp (bQ mk k nn tk) clock))
 (L:P.underlying t=some (.map kt S)) (A:ny P S=some z) (J:eK P kt mz) (D:∀j,j < nn->tk j≠U) (Z:K (.w (.one (.t (.val z)))) hp):
 ∃v hp',YB P (.lookup t (.tmp a) (.tmp b) false) ty tm hp ctr v hp'/\K v hp':=by
 refine⟨_,_,⟨λw=>rfl,?_⟩,Z⟩;rintro n ⟨g,y,B,O,Y,l⟩ rfl rfl;have H:St.get ⟨n,tm,hp⟩ (.tmp a)= .w (.one (.map id)):=Y1
 have o:St.get ⟨n,tm,hp⟩ (.tmp b)=iV .i64 U:=PL
 have G:(iV .i64 U).val? =some (.int .i64 U):=rfl;simp only[aK,H,o,fU,G,L,R,CP _ J D,A,wv]
def ZN{a x:Nat}{t:TypeId}{tm:TS}{hp:HS}{k q:Nat}{c:C}{K:V->HS->Prop}(r:find tm a=some (.w (.one (.map id))))(hx:find tm b=some (iV .i64 U))(D:find tm x=some (.w (.one c)))(R:find hp id=some (.mp (bQ mk k nn tk) clock))
 (L:P.underlying t=some (.map kt S)) (J:eK P kt mz) (Q:ru tk nn) (hq:q < nn) (j:tk q=U) (Z:K .undef (jB hp id (.mp ((bQ mk k nn tk).set q (.int .i64 U,c,q)) clock))):
 ∃v hp',YB P (.mapUpdate t (.tmp a) (.tmp b) (.tmp x)) ty tm hp ctr v hp'/\K v hp':=by
 refine⟨_,_,⟨λw=>rfl,?_⟩,Z⟩;rintro n ⟨g,y,B,s,N,l⟩ rfl rfl;have H:St.get ⟨n,tm,hp⟩ (.tmp a)= .w (.one (.map id)):=Y1
 have o:St.get ⟨n,tm,hp⟩ (.tmp b)=iV .i64 U:=PL
 have e:St.get ⟨n,tm,hp⟩ (.tmp x)= .w (.one c):=by simp[St.get,D]
 have G:(iV .i64 U).val? =some (.int .i64 U):=rfl;obtain⟨O,Y⟩:=RU (P:=P) (k:=k) (mk:=mk) false J Q hq j;simp only[aK,H,o,e,lX,G,L,R,O,Y];rw[if_pos (J.same _ ⟨_,rfl⟩)];rfl
def ZM{a x:Nat}{t:TypeId}{tm:TS}{hp:HS}{k:Nat}{c:C}{K:V->HS->Prop}(r:find tm a=some (.w (.one (.map id))))(hx:find tm b=some (iV .i64 U))(D:find tm x=some (.w (.one c)))(R:find hp id=some (.mp (bQ mk k nn tk) clock))
 (L:P.underlying t=some (.map kt S)) (J:eK P kt mz) (M:∀j,j < nn->tk j≠U) (Z:K .undef (jB hp id (.mp (bQ mk k nn tk++[(.int .i64 U,c,clock)]) (clock+1)))):
 ∃v hp',YB P (.mapUpdate t (.tmp a) (.tmp b) (.tmp x)) ty tm hp ctr v hp'/\K v hp':=by
 refine⟨_,_,⟨λw=>rfl,?_⟩,Z⟩;rintro n ⟨g,y,B,O,Y,l⟩ rfl rfl;have H:St.get ⟨n,tm,hp⟩ (.tmp a)= .w (.one (.map id)):=Y1
 have o:St.get ⟨n,tm,hp⟩ (.tmp b)=iV .i64 U:=PL
 have e:St.get ⟨n,tm,hp⟩ (.tmp x)= .w (.one c):=by simp[St.get,D]
 have G:(iV .i64 U).val? =some (.int .i64 U):=rfl;simp only[aK,H,o,e,lX,G,L,R,CP _ J M,wv]
abbrev LJ(sz:Nat)(l:Nat->Nat)(id j:Nat):C:= .own id sz 0 (l j)
def Vq(sz:Nat)(l:Nat->Nat):aiI (LJ sz l):=λid j f q h=>by simp only[C.aM,h]
def Nr{k:Nat}{l A:Nat->Nat}{a:Nat->Int}(U:∀j,j < n->A j=l j)(g:∀j,j < n->a j=tk j):bQ (LJ sz l) k n tk=bQ (LJ sz A) k n a:=by
 unfold bQ;apply abr;intro j Q;have Q:=aap.1 Q;simp only[LJ,U j Q,g j Q]
def FZ{k E P q c:Nat}{l A:Nat->Nat}{f:Nat->Option Nat}{w:Int}(a:tk k=w)(U:∀j,j < n->A j=if j=k then q else l j)(h:∀j,j < n->f (CG E k j)=some (nm P j)):
 (bE.mp ((bQ (LJ sz l) k n tk).set k (.int .i64 w,.own E sz 0 q,k)) c).aM f= .mp (bQ (LJ sz A) P n tk) c:=by
 subst a;simp only[bE.aM,bE.mp.injEq,and_true];apply abm;intro i;simp only[bQ,yu,adG,abo,aej]
 by_cases I:i < n
 . have hi2:=h i I;have s:=U i I;have J:(List.range n)[i]? =some i:=afx
   rw[J]
   by_cases e:k=i
   . subst e;simp only[CG,if_true]at hi2;simp[I,C.aM,hi2,s]
   . have y:¬i=k:=λh=>e h.symm;simp only[CG,y,if_false]at hi2;simp[e,C.aM,nm,y,hi2,s]
 . have J:(List.range n)[i]? =none:=by simp;omega
   rw[J]
   by_cases e:k=i
   . subst e;simp[I]
   . simp[e]
def F0{c E q:Nat}{l A:Nat->Nat}{a:Nat->Int}{f:Nat->Option Nat}{t:Int}(U:∀j,j < n->A j=l j)(hq:A n=q)(Q:a n=t)(d:∀j,j < n->a j=tk j)(K:n < cJ)(R:∀j,j < n->f (pid j)=some (pid j))(hE:f E=some (pid n)):
 (bE.mp (bQ (LJ sz l) cJ n tk++[(.int .i64 t,.own E sz 0 q,n)]) c).aM f= .mp (bQ (LJ sz A) cJ (n+1) a) c:=by
 subst hq;rw[Nr U (λ_ _=>rfl)];exact K4 (Vq sz A) Q d K R hE
end Go.aW
namespace Go.aW.Cd
open Go Go.Proofs
variable[kw]
def dL(L:Lz):List Int:=L.foldl (λu e=>if nI 0 e∈u then u else u++[nI 0 e]) []
def jC(L:Lz)(w:Int):Lz:=L.filter λe=>decide (nI 0 e=w)
def Ji(L:Lz)(e:Lt):dL (L++[e])=if nI 0 e∈dL L then dL L else dL L++[nI 0 e]:=by
 unfold dL;rw[List.foldl_append];rfl
def Oe(L:Lz)(w:Int):w∈dL L↔ ∃e,e∈L/\nI 0 e=w:=by
 have h:∀ (L:Lz) (u:List Int),w∈L.foldl (λu e=>if nI 0 e∈u then u else u++[nI 0 e]) u↔w∈u\/ ∃e,e∈L/\nI 0 e=w:=by
  intro L
  induction L with
  |nil=>intro u;simp
  |cons x L c=>
   intro u;simp only[adp,c];split
   . rename_i N;constructor
     . rintro(h|⟨e,O,Y⟩)
       . exact .inl h
       . exact .inr ⟨e,by simp[O],Y⟩
     . rintro(h|⟨e,O,Y⟩)
       . exact .inl h
       . rcases aak.1 O with rfl|O
         . exact .inl (Y▸N)
         . exact .inr ⟨e,O,Y⟩
   . simp only[yl,aak,aa6,or_false];constructor
     . rintro((h|h)|⟨e,O,Y⟩)
       . exact .inl h
       . exact .inr ⟨x,.inl rfl,h.symm⟩
       . exact .inr ⟨e,.inr O,Y⟩
     . rintro(h|⟨e,rfl|O,Y⟩)
       . exact .inl (.inl h)
       . exact .inl (.inr Y.symm)
       . exact .inr ⟨e,O,Y⟩
 simpa[dL]using h L []
def tJ(L:Lz):(dL L).Nodup:=by
 have h:∀ (L:Lz) (u:List Int),u.Nodup->(L.foldl (λu e=>if nI 0 e∈u then u else u++[nI 0 e]) u).Nodup:=by
  intro L
  induction L with
  |nil=>intro u h;exact h
  |cons x L c=>
   intro u g;simp only[adp];apply c;split
   . exact g
   . rename_i N;rw[adM];exact⟨g,ak,λa w b G=>by simp only[vv]at G;subst G;exact λe=>N (e▸w)⟩
 exact h L [] ak
def lQ(L:Lz):(dL L).length<=L.length:=by
 have h:∀ (L:Lz) (u:List Int),(L.foldl (λu e=>if nI 0 e∈u then u else u++[nI 0 e]) u).length<=u.length+L.length:=by
  intro L
  induction L with
  |nil=>intro u;simp
  |cons x L c=>
   intro u;simp only[adp,aaa];have:=c (if nI 0 x∈u then u else u++[nI 0 x]);split at this<;>rename_i N
   . rw[if_pos N];omega
   . rw[if_neg N];simp at this;omega
 simpa[dL]using h L []
abbrev su(u:List Int)(j:Nat):Int:=u.getD j 0
def GF{u:List Int}(h:u.Nodup):ru (su u) u.length:=λa b w G e=>by
 simp only[su,aba,YI w,YI G,YJ]at e;exact(adx h).1 e
variable{w:Int}{L es a zs ys xs:Lz}{e y J:Lt}{j c b ctr n sz id:Nat}
def Ol{u:List Int}(h:w∉u):∀j,j < u.length->su u j≠w:=λj Q e=>by
 simp only[su,aba,YI Q,YJ]at e;exact h (e▸aaC Q)
def L8{u:List Int}(w:Int):∀j,j < u.length->su (u++[w]) j=su u j:=λj Q=>by
 simp[su,aba,aaf Q]
def GD(u:List Int)(w:Int):su (u++[w]) u.length=w:=by
 simp[su,aba]
def FW(L:Lz)(j:Nat):Lz:=if j < (dL L).length then jC L (su (dL L) j)else []
abbrev lW(L:Lz)(j:Nat):Nat:=(FW L j).length
abbrev eW(L:Lz)(k:Nat):cF:=bQ (LJ 3 (lW L)) k (dL L).length (su (dL L))
abbrev HW(L:Lz)(k:Nat):HS:=(2000004,.mp (eW L k) (dL L).length)::(lit,.row 3 (tr (FW L k)))::dh 3 (FW L) (mem (dL L).length k)
def fW(L:Lz)(i:Nat):Nat:=match L[i]? with
 |some e=>kY (su (dL (L.take i))) (dL (L.take i)).length (nI 0 e)|none=>cJ
def eF(L:Lz):cF:=(List.range (dL L).length).map λj=>(.int .i64 (su (dL L) j),.t (.aO 3 (FW L j)),j)
def xg(L:Lz)(e:Lt)(w:Int):jC (L++[e]) w=jC L w++if nI 0 e=w then [e]else []:=by
 unfold jC;rw[aed];congr 1
 by_cases h:nI 0 e=w<;>simp[h]
def yZ(h:w∉dL L):jC L w=[]:=by
 unfold jC;rw[aeg];intro e H;simp only[decide_eq_true_eq];exact λY=>h ((Oe L w).2 ⟨e,H,Y⟩)
def Gu(h:nI 0 e∈dL L):dL (L++[e])=dL L:=by rw[Ji,if_pos h]
def sj(h:nI 0 e∉dL L):dL (L++[e])=dL L++[nI 0 e]:=by rw[Ji,if_neg h]
def IY{k:Nat}(Z:k < (dL L).length)(a:su (dL L) k=nI 0 e):FW (L++[e]) k=FW L k++[e]:=by
 have r:nI 0 e∈dL L:=by
  rw[<-a];simp only[su,aba,YI Z,YJ];exact aaC Z
 simp only[FW,Gu r,Z,if_true,a,xg]
def IX{k:Nat}(Z:k < (dL L).length)(a:su (dL L) k=nI 0 e)(Q:j≠k):FW (L++[e]) j=FW L j:=by
 have r:nI 0 e∈dL L:=by
  rw[<-a];simp only[su,aba,YI Z,YJ];exact aaC Z
 simp only[FW,Gu r]
 by_cases U:j < (dL L).length
 . have P:nI 0 e≠su (dL L) j:=λh=>Q (GF (tJ L) j k U Z (h.symm.trans a.symm));simp only[U,if_true,xg,P,if_false,aa9]
 . simp only[U,if_false]
def IW(h:nI 0 e∉dL L):FW (L++[e]) (dL L).length=[e]:=by
 simp only[FW,sj h,XV,aco,Nat.lt_succ_self,if_true,GD,xg,yZ h,ac1]
def IV(h:nI 0 e∉dL L)(Q:j≠ (dL L).length):FW (L++[e]) j=FW L j:=by
 simp only[FW,sj h,XV,aco]
 by_cases U:j < (dL L).length
 . have P:nI 0 e≠su (dL L) j:=λY=>Ol h j U Y.symm;simp only[U,Nat.lt_succ_of_lt U,if_true,L8 _ j U,xg,P,if_false,aa9]
 . have:¬j < (dL L).length+1:=aa
   simp only[U,this,if_false]
def DQ(h:(dL L).length<=j):FW L j=[]:=by
 unfold FW;rw[if_neg aa]
def auP(L:Lz)(j:Nat):(FW L j).length<=L.length:=by
 unfold FW jC;split
 . exact adE _ _
 . simp
def aKS(L:Lz):fW L 0=cJ:=by
 unfold fW;split<;>rfl
def aLD(L:Lz):((2000004,bE.mp [] 0)::(([]:HS)++(lit,bE.row 3 (tr []))::dh 3 (λ_=>[]) (mem 0 cJ)))=HW (L.take 0) cJ:=by
 have e:FW (L.take 0)=λ_=>[]:=by funext j;exact DQ (by simp[dL])
 simp only[HW,e];rfl
def PZ{i:Nat}(h:L[((i:Int)).toNat]? =some e):fW L i=kY (su (dL (L.take i))) (dL (L.take i)).length (nI 0 e):=by
 have N:L[i]? =some e:=bc
 simp only[fW,N]
def akW(L:Lz)(i:Nat):fW L i=cJ\/fW L i < (dL (L.take i)).length:=by
 unfold fW;split
 . exact MM _ _ _
 . exact .inl rfl
def T8{u:List Int}(h:w∈u): ∃j,j < u.length/\su u j=w:=by
 obtain⟨j,Q,rfl⟩:=ab9.1 h;exact⟨j,Q,by simp[su,aba,YI Q]⟩
def asC{i k:Nat}(h:L[((i:Int)).toNat]? =some e)(Z:k=fW L i)(r:nI 0 e∈dL (L.take i)):k < (dL (L.take i)).length/\su (dL (L.take i)) k=nI 0 e:=by
 obtain⟨j,Q,g⟩:=T8 r;have H:=PA (GF (tJ (L.take i))) Q g;rw[Z,PZ h,H];exact⟨Q,g⟩
def afV{i k:Nat}(h:L[((i:Int)).toNat]? =some e)(Z:k=fW L i)(K:L.length<=cJ)(r:nI 0 e∉dL (L.take i)):k=cJ:=by
 have Y:=MM (su (dL (L.take i))) (dL (L.take i)).length (nI 0 e);rw[<-PZ h, <-Z]at Y;rcases Y with Y|Y
 . exact Y
 . have U:(dL (L.take i)).length<=cJ:=by have:=lQ (L.take i);simp only[aab]at this;omega
   have B:=VK (tk:=su (dL (L.take i))) (n:=(dL (L.take i)).length) (t:=nI 0 e) (by rw[<-PZ h, <-Z];exact Y) U;rw[<-PZ h, <-Z]at B;exact absurd B (Ol r k Y)
def Xf{i:Nat}{k:Value}{c:C}(h:(eF L)[i]? =some (k,c,b)):i < (dL L).length/\k= .int .i64 (su (dL L) i)/\c= .t (.aO 3 (FW L i))/\i=b:=by
 simp only[eF,yu,jU]at h;obtain⟨j,Q,h⟩:=h;obtain⟨O,Y⟩:=jl.1 Q;simp at O Y;subst Y;simp only[uu]at h;exact⟨O,h.1.symm,h.2.1.symm,h.2.2⟩
def Od{tm:TS}(K:L.length<=cJ):eo tm (HW L cJ) ctr tm [(2000004,.mp (eF L) (dL L).length)] ctr:=by
 have U:(dL L).length<=cJ:=by have:=lQ L;omega
 refine eo.aKR (es:=eW L cJ) rfl (by simp[eF,bQ]) λi k c b h=>?_;obtain⟨O,Z,D,G⟩:=Xf h;subst Z;subst D;subst G;have P:¬i=cJ:=aa
 refine⟨pid i,3,FW L i,?_,?_,by simp only[pid,cJ]at *;omega,rfl⟩
 . have J:(List.range (dL L).length)[i]? =some i:=by simp[O]
   simp[bQ,J,nm,P]
 . have F:jo 3 (FW L) (mem (dL L).length cJ) (HW L cJ):=jo.cons (jo.cons jo.here rfl) rfl;exact F.find (qR U) (mem_iff.2 ⟨.inr O,P⟩)
def Xg(L:Lz)(n:Nat)(f:Nat->Option Nat):(bE.mp (eF L) n).aM f= .mp (eF L) n:=by
 simp only[bE.aM,bE.mp.injEq,and_true,eF,acm];apply abr;intro j _;rfl
def X7{i P:Nat}(S:L[((i:Int)).toNat]? =some e)(r:nI 0 e∈dL (L.take i)):
 ((2000004,bE.mp (bQ (LJ 3 (lW (L.take (i+1)))) P (dL (L.take i)).length (su (dL (L.take i)))) (dL (L.take i)).length)::(([]:HS)++(lit,bE.row 3 (tr (FW (L.take (i+1)) P)))::dh 3 (FW (L.take (i+1))) (mem (dL (L.take i)).length P)))=HW (L.take (i+1)) P:=by
 have e:dL (L.take (i+1))=dL (L.take i):=by rw[takeN S,Gu r]
 simp only[HW,eW,e];rfl
def WS{i:Nat}(h:L.length<=i):fW L i=cJ:=by simp only[fW,abe h]
def afW{i:Nat}(S:L[((i:Int)).toNat]? =some e)(r:nI 0 e∈dL (L.take i)):fW L (i+1)=cJ\/fW L (i+1) < (dL (L.take i)).length:=by
 have h:=akW L (i+1);rwa [takeN S,Gu r]at h
def X6{i P:Nat}(S:L[((i:Int)).toNat]? =some e)(r:nI 0 e∉dL (L.take i))(K:n=(dL (L.take i)).length):
 ((2000004,bE.mp (bQ (LJ 3 (lW (L.take (i+1)))) P (n+1) (su (dL (L.take (i+1))))) (n+1))::(([]:HS)++(lit,bE.row 3 (tr (FW (L.take (i+1)) P)))::dh 3 (FW (L.take (i+1))) (mem (n+1) P)))=HW (L.take (i+1)) P:=by
 have e:(dL (L.take (i+1))).length=n+1:=by rw[takeN S,sj r,K];simp
 simp only[HW,eW,e];rfl
def afU{i:Nat}(S:L[((i:Int)).toNat]? =some e)(r:nI 0 e∉dL (L.take i)):fW L (i+1)=cJ\/fW L (i+1) < (dL (L.take i)).length+1:=by
 have h:=akW L (i+1);rw[takeN S,sj r]at h;simpa[takeN S]using h
def ahV(L:Lz)(m:Nat)(vs:List V)(hq:HS):Prop:= ∃i k:Nat,i<=L.length/\m=L.length - i/\vs=[iV .i64 (i:Int)]/\k=fW L i/\((i < L.length/\hq=HW (L.take i) k)\/(L=[]/\hq=HW [] cJ)\/(i=L.length/\hq=[(2000004,.mp (eF L) (dL L).length)]))
def GGr(L:Lz)(ts:Lw)(N:HS):Prop:=ts=[.one (.map 0)]/\N=[(0,.mp (eF L) (dL L).length)]
def ahV.zero(L:Lz):ahV L L.length [iV .i64 0] (HW (L.take 0) cJ):=by
 refine⟨0,cJ,aa,rfl,rfl,(aKS L).symm,?_⟩
 cases L with
 |nil=>exact .inr (.inl ⟨rfl,rfl⟩)
 |cons x L=>exact .inl ⟨ak,rfl⟩
def AC(L:Lz)(r:I3 L)(U:L.length<=1000): ∃ts N,yw Tryz.prog 55 [oL 3 L] (aR ts) N/\GGr L ts N:=by
 have K:L.length<=cJ:=by simp only[cJ];omega
 refine jc Tryz.func55 ?_
 repeat' ((conv=>whnf);first|refine aJ (λh=>?_) (λh=>?_)|(refine aG (xs:=L) r aa aa ?_;rintro _ ⟨a,b,c,rfl⟩ S;have O:(dL (L.take i)).length<=cJ:=(by have:=lQ (L.take i);simp only[aab]at this;omega);have x:(FW (L.take i) k).length<=i:=(by have:=auP (L.take i) k;simp only[aab]at this;omega);rcases ad6 (a∈dL (L.take i))with g|g<;>rcases aa8 (i+1) L.length with o|o)|refine And.intro ⟨by simp[bh],by simp[maxLen]⟩ ?_|refine And.intro ⟨by simp[tr],by simp[tr,bh];omega,by simp[tr,maxLen];omega⟩ ?_|refine And.intro ag ?_|refine jq ?_|(apply N5 [3,7,8,9] [9] (ahV L) L.length [iV .i64 0] 3;(conv=>whnf);exact⟨rfl,rfl,rfl,rfl,rfl,rfl,rfl⟩;exact rfl;exact rfl;exact rfl;(repeat first|exact jo.here|refine jo.cons ?_ rfl);(rw[aLD L];exact ahV.zero L);rintro _ _ _ ⟨i,k,I,rfl,rfl,Z,(⟨hi2,rfl⟩|⟨rfl,rfl⟩|⟨hi2,rfl⟩)⟩)|(have l:a∈dL (L.take i):=ai;clear l;obtain⟨A,d⟩:=asC S Z g;refine TU rfl rfl rfl Tryz.underlying149 (iu Tryz.underlying3) (GF (tJ _)) A d ?_)|(have l:a∉dL (L.take i):=ai;clear l;obtain rfl:=afV S Z K g;refine TR rfl rfl rfl Tryz.underlying149 rfl (iu Tryz.underlying3) (Ol g) ?_)|refine ZN rfl rfl rfl rfl Tryz.underlying149 (iu Tryz.underlying3) (GF (tJ _)) A d ?_|refine ZM rfl rfl rfl rfl Tryz.underlying149 (iu Tryz.underlying3) (Ol g) ?_|refine LY rfl (qR O) ?_|refine amP ?_|(have n:i+1 < L.length:=aa;have Y:=d;clear Y;apply gf [3,7,8,9] (dL (L.take i)).length k (fW L (i+1)) 2000064 3 (FW (L.take i)) (FW (L.take (i+1))) (.mp (bQ (LJ 3 (lW (L.take (i+1)))) (fW L (i+1)) (dL (L.take i)).length (su (dL (L.take i)))) (dL (L.take i)).length);(conv=>whnf);exact⟨rfl,rfl,rfl,rfl,rfl,rfl,rfl⟩;exact rfl;exact rfl;exact rfl;(repeat first|exact jo.here|refine jo.cons ?_ rfl);exact O;exact .inr A;exact afW S g;(rw[takeN S,IY A d];exact aL.snoc rfl [tI _,tI _,tI _]);(intro j Q;rw[takeN S,IX A d Q]);exact(λf R=>FZ d (λj _=>by rw[takeN S];by_cases e:j=k;(subst e;simp[lW,IY A d,tr]);(simp[lW,e,IX A d e])) R);exact⟨_,[_],⟨i+1,_,aa,rfl,by rw[bF aa aa];rfl,rfl,.inl ⟨aa,X7 S g⟩⟩,rfl,rfl,aa⟩)|(have n:L.length<=i+1:=aa;have Y:=d;clear Y;refine bA.join ?_;apply gf [3,7,8,9] (dL (L.take i)).length k cJ 2000064 3 (FW (L.take i)) (FW (L.take (i+1))) (.mp (bQ (LJ 3 (lW (L.take (i+1)))) cJ (dL (L.take i)).length (su (dL (L.take i)))) (dL (L.take i)).length);(conv=>whnf);exact⟨rfl,rfl,rfl,rfl,rfl,rfl,rfl⟩;exact rfl;exact rfl;exact rfl;(repeat first|exact jo.here|refine jo.cons ?_ rfl);exact O;exact .inr A;exact .inl rfl;(rw[takeN S,IY A d];exact aL.snoc rfl [tI _,tI _,tI _]);(intro j Q;rw[takeN S,IX A d Q]);exact(λf R=>FZ d (λj _=>by rw[takeN S];by_cases e:j=k;(subst e;simp[lW,IY A d,tr]);(simp[lW,e,IX A d e])) R);(rw[X7 S g,zU n];exact .wk (Od K) ⟨_,[_],⟨i+1,cJ,aa,rfl,by rw[bF aa aa];rfl,(WS n).symm,.inr (.inr ⟨aa,rfl⟩)⟩,rfl,rfl,aa⟩))|(have n:i+1 < L.length:=aa;have Y:a∉dL (L.take i):=ai;clear Y;refine bA.join ?_;apply BS [3,7,8,9] (dL (L.take i)).length 2000064 3 (FW (L.take i)) (FW (L.take (i+1))) (.mp (bQ (LJ 3 (lW (L.take (i+1)))) cJ ((dL (L.take i)).length+1) (su (dL (L.take (i+1))))) ((dL (L.take i)).length+1));(conv=>whnf);exact⟨rfl,rfl,rfl,rfl,rfl,rfl,rfl,rfl⟩;exact rfl;exact av;exact rfl;exact rfl;exact rfl;(repeat first|exact jo.here|refine jo.cons ?_ rfl);(have:=lQ (L.take i);simp only[aab]at this;simp only[cJ]at K⊢;omega);(rw[takeN S,IW g];rfl);(rw[DQ O,DQ (L:=L.take (i+1)) Sj];rfl);(intro c D;rw[takeN S,IV g aa]);exact(λf R hE=>F0 (λj Q=>by simp only[lW];rw[takeN S,IV g aa]) (by simp only[lW];rw[takeN S,IW g];rfl) (by rw[takeN S,sj g];exact GD _ _) (λj Q=>by rw[takeN S,sj g];exact L8 _ j Q) ul R hE);show bA _ _ _ _;apply gf [3,7,8,9] ((dL (L.take i)).length+1) cJ (fW L (i+1)) lit 3 (FW (L.take (i+1))) (FW (L.take (i+1))) (.mp (bQ (LJ 3 (lW (L.take (i+1)))) (fW L (i+1)) ((dL (L.take i)).length+1) (su (dL (L.take (i+1))))) ((dL (L.take i)).length+1));(conv=>whnf);exact⟨rfl,rfl,rfl,rfl,rfl,rfl,rfl⟩;exact rfl;exact rfl;exact rfl;(repeat first|exact jo.here|refine jo.cons ?_ rfl);(have:=lQ (L.take i);simp only[aab]at this;simp only[cJ]at K⊢;omega);exact .inl rfl;exact afU S g;exact rfl;exact(λ_ _=>rfl);exact(λf R=>tt (Vq 3 _) R);exact⟨_,[_],⟨i+1,_,aa,rfl,by rw[bF aa aa];rfl,rfl,.inl ⟨aa,X6 S g rfl⟩⟩,rfl,rfl,aa⟩)|(have n:L.length<=i+1:=aa;have Y:a∉dL (L.take i):=ai;clear Y;refine bA.join ?_;apply BS [3,7,8,9] (dL (L.take i)).length 2000064 3 (FW (L.take i)) (FW (L.take (i+1))) (.mp (bQ (LJ 3 (lW (L.take (i+1)))) cJ ((dL (L.take i)).length+1) (su (dL (L.take (i+1))))) ((dL (L.take i)).length+1));(conv=>whnf);exact⟨rfl,rfl,rfl,rfl,rfl,rfl,rfl,rfl⟩;exact rfl;exact av;exact rfl;exact rfl;exact rfl;(repeat first|exact jo.here|refine jo.cons ?_ rfl);(have:=lQ (L.take i);simp only[aab]at this;simp only[cJ]at K⊢;omega);(rw[takeN S,IW g];rfl);(rw[DQ O,DQ (L:=L.take (i+1)) Sj];rfl);(intro c D;rw[takeN S,IV g aa]);exact(λf R hE=>F0 (λj Q=>by simp only[lW];rw[takeN S,IV g aa]) (by simp only[lW];rw[takeN S,IW g];rfl) (by rw[takeN S,sj g];exact GD _ _) (λj Q=>by rw[takeN S,sj g];exact L8 _ j Q) ul R hE);(rw[X6 S g rfl,zU n];exact .wk (Od K) ⟨_,[_],⟨i+1,cJ,aa,rfl,by rw[bF aa aa];rfl,(WS n).symm,.inr (.inr ⟨aa,rfl⟩)⟩,rfl,rfl,aa⟩))|exact⟨_,[2000004],rfl,⟨av,ak⟩,rfl,(show [(0,(bE.mp (eF L) (dL L).length).aM (bI [2000004]))]=_ by rw[Xg])⟩|exact⟨_,[2000004],rfl,⟨av,ak⟩,rfl,rfl⟩|(exfalso;omega))
def AK(e:Lt):Lz:=match e with
 | [.aO _ o]=>o|_=>[]
def B5(es:Lz):Nat:=(es.flatMap AK).length
def IR(sz:Nat)(e:Lt):Prop:=(∃o,e=[.aO sz o]/\o.length<=100000)\/e=[dw]
def B4{i:Nat}(h:es[((i:Int)).toNat]? =some e):(es.take (i+1)).flatMap AK=(es.take i).flatMap AK++AK e:=by
 rw[takeN h,ad3];simp
def E2(h:∀e,e∈es->IR sz e)(U:es.length<=4)(i:Nat):B5 (es.take i)<=400000:=by
 have O:∀l:Lz,(∀e,e∈l->IR sz e)->B5 l<=l.length * 100000:=by
  intro l
  induction l with
  |nil=>intro _;simp[B5]
  |cons x l c=>
   intro U;have O:=c λe H=>U e (by simp[H]);rcases U x ak with⟨xs,rfl,Y⟩|rfl
   . simp only[B5,acn,XV,aaa,AK]at O⊢;omega
   . simp only[B5,acn,XV,aaa,ac0,AK]at O⊢;omega
 have Y:=O (es.take i) λe H=>h e (aah H);simp only[aab]at Y;omega
def RCz(a:Lz)(m:Nat)(vs:List V):Prop:= ∃i:Nat,i<=a.length/\m=a.length - i/\vs=[iV .i64 (B5 (a.take i):Int),iV .i64 (i:Int)]
def RCz.next{i:Nat}{n:Int}(b:∀e,e∈a->IR sz e)(U:a.length<=4)(I:(i:Int) < (a.length:Int))(S:a[((i:Int)).toNat]? =some e)(K:n=((AK e).length:Int)):RCz a (a.length - (i+1)) [iV .i64 (IntKind.i64.wrap ((B5 (a.take i):Int)+n)),iV .i64 (IntKind.i64.wrap ((i:Int)+1))]:=by
 have O:=B4 S;have Y:=E2 b U (i+1);have B:B5 (a.take (i+1))=B5 (a.take i)+(AK e).length:=by simp only[B5,O,XV]
 refine⟨i+1,aa,rfl,?_⟩;rw[K,bF aa aa,bF aa aa,B];simp
def zG{i:Nat}(b:∀e,e∈a->IR sz e)(U:a.length<=4)(K:n<=100000)(h:IntKind.i64.wrap ((B5 (a.take i):Int)+(n:Int)) < 0):False:=by
 have:=E2 b U i;rw[bF aa aa]at h;omega
def Zz(sz:Nat)(a:Lz)(m:Nat)(F:List V)(w:List (Lz)):Prop:= ∃ (i:Nat) (M:Lz),i<=a.length/\m=a.length - i/\F=[bD 4 sz M.length,iV .i64 (i:Int)]/\w=[M]/\M=(a.take i).flatMap AK
def Zz.same{i:Nat}(U:a.length<=4)(I:(i:Int) < (a.length:Int))(S:a[((i:Int)).toNat]? =some e)(H:AK e=[])(A:zs=(a.take i).flatMap AK):Zz sz a (a.length - (i+1)) [bD 4 sz zs.length,iV .i64 (IntKind.i64.wrap ((i:Int)+1))] [zs]:=
 ⟨i+1,zs,aa,rfl,by rw[bF aa aa];rfl,rfl,by rw[B4 S,H,aa9,A]⟩
def Zz.ya{i k:Nat}(U:a.length<=4)(I:(i:Int) < (a.length:Int))(S:a[((i:Int)).toNat]? =some [.aO sz (y::ys)])(A:zs=(a.take i).flatMap AK)(Z:k=zs.length+(ys.length+1)):Zz sz a (a.length - (i+1)) [bD 4 sz k,iV .i64 (IntKind.i64.wrap ((i:Int)+1))] [zs++y::ys]:=
 ⟨i+1,_,aa,rfl,by rw[bF aa aa,Z];simp,rfl,by rw[B4 S,A];rfl⟩
def RNz(a:Lz)(m:Nat)(vs:List V):Prop:= ∃i:Nat,i<=a.length/\m=a.length - i/\vs=[CH,iV .i64 (i:Int)]
def RNz.next{i:Nat}(U:a.length<=4)(I:(i:Int) < (a.length:Int)):RNz a (a.length - (i+1)) [CH,iV .i64 (IntKind.i64.wrap ((i:Int)+1))]:=
 ⟨i+1,aa,rfl,by rw[bF aa aa];rfl⟩
def anB{i:Nat}(z:B5 a=0)(S:a[((i:Int)).toNat]? =some [.aO sz (y::ys)]):False:=by
 have O:y∈a.flatMap AK:=abg.2 ⟨_,oo S,by simp[AK]⟩;have Y:a.flatMap AK=[]:=ac5 z;rw[Y]at O;simp at O
def amY:Tryz.prog.underlying 45=some (.slice 62):=ag
def asK:qy Tryz.prog 62=some (3,24):=ag
def amI:j9 Tryz.prog 62=some [.t (tI 0),.t (tI 0),.t (tI 0)]:=ag
def ahA(O:zs.length<=400000)(Y:ys.length<=100000):zs.length=(tr zs).length/\((tr zs).length+((ys.map λe=>e.map C.t).length+1)) * 24<=bh/\(tr zs).length+((ys.map λe=>e.map C.t).length+1)<=maxLen:=by
 refine⟨by simp[tr],?_,?_⟩
 . simp only[tr,abo,bh];omega
 . simp only[tr,abo,maxLen];omega
def Wf(_u:Unit):Tg 85 [.one (.t dw),oI 0] IT:=by
 refine aC Tryz.func85 ?_
 repeat' ((conv=>whnf);first|refine nA (op:= .call ⟨.builtin .cap, #[.tmp _], #[45]⟩) (v:=iV .i64 0) ag ?_|exact g1 rfl rfl rfl)
def Wc(n:Nat)(O:1<=n)(K:n<=1000000): ∃ts N,yw Tryz.prog 85 [.one (.t dw),oI n] (aR ts) N/\GNc 3 ts N:=by
 refine jc Tryz.func85 ?_
 repeat' ((conv=>whnf);first|refine aJ (λh=>?_) (λh=>?_)|refine oZ (aa7 _) aa (.inr rfl) ?_|refine And.intro aa ?_|refine nA (op:= .call ⟨.builtin .cap, #[.tmp _], #[45]⟩) (v:=iV .i64 0) ag ?_|refine nA (op:= .slice 45 (.tmp 17) none (some (.tmp 19)) none) (v:=CH) ag ?_|refine LZ (m:=n - 1) rfl rfl (Nc O K) amY uIn asK amI rfl aa aa ?_|exact gNc rfl rfl rfl|(exfalso;rw[HY K]at h;omega))
def Su(n:Nat)(h:n=0):S6 85 [.one (.t dw),oI n] IT:=by subst h;exact Wf ()
def NC(a:Lz)(b:∀e,e∈a->IR 3 e)(U:a.length<=4)(O:1<=B5 a): ∃ts N,yw Tryz.prog 56 [oL 1 a] (aR ts) N/\GN 3 (λzs=>zs=a.flatMap AK) ts N:=by
 refine jc Tryz.func56 ?_
 repeat' ((conv=>whnf);first|refine aJ (λh=>?_) (λh=>?_)|(refine aG (xs:=a) (n:=(i:Int)) b aa aa ?_;rintro _ (⟨Y,rfl,P⟩|rfl) S)|(refine aG (xs:=a) (n:=(q:Int)) b aa aa ?_;rintro _ (⟨_|⟨y,Y⟩,rfl,P⟩|rfl) S)|(exfalso;exact zG b U P h)|(exfalso;exact zG (n:=0) b U aa h)|refine And.intro (ahA (by have:=E2 b U q;rw[A];exact this) (by simp at P;omega)) ?_|(refine N4 rfl (GNc.new (Wc (B5 (a.take i)) afq (by have:=E2 b U i;omega))) ?_;rintro _ rfl)|exact gN rfl rfl rfl (xs:=zs) rfl rfl (by rw[A,aac aa])|(apply bp [6,25,26,27] [] [6,27] [(4,3)] (Zz 3 a) (a.length) [bD 4 3 0,iV .i64 0];(iterate 3 exact ae);exact .cons (aL.aM (xs:=[]) rfl _) .nil;exact⟨0,[],aa,rfl,rfl,rfl,ak⟩;rintro _ _ _ ⟨q,zs,d,rfl,rfl,rfl,A⟩)|(refine aI [6,25,26,27] [] ?_;(conv=>whnf);first|exact⟨rfl,_,[_,_],_,.cons (aL.aM (xs:=zs) rfl _) .nil,Zz.same U aa S rfl A,rfl,rfl,aa⟩|exact⟨rfl,_,[_,_],_,.cons (aL.aM (aL.ya (xs:=zs) rfl (y::Y)) _) .nil,Zz.ya U aa S A iC,rfl,rfl,aa⟩)|(apply aV [0,3,9,10,11] [] [3,11] (RCz a) (a.length) [iV .i64 0,iV .i64 0];(iterate 3 exact ae);exact⟨0,aa,rfl,by simp[B5]⟩;rintro _ _ ⟨i,I,rfl,rfl⟩)|(refine aI [0,3,9,10,11] [] ?_;(conv=>whnf);exact⟨rfl,_,[_,_],RCz.next b U aa S (by simp[AK]),rfl,rfl,rfl,aa⟩))
def ND(a:Lz)(b:∀e,e∈a->IR 3 e)(U:a.length<=4)(z:B5 a=0):Tg 56 [oL 1 a] IT:=by
 refine aC Tryz.func56 ?_
 repeat' ((conv=>whnf);first|refine aJ (λh=>?_) (λh=>?_)|(refine aG (xs:=a) (n:=(i:Int)) b aa aa ?_;rintro _ (⟨Y,rfl,P⟩|rfl) S)|(refine aG (xs:=a) (n:=(q:Int)) b aa aa ?_;rintro _ (⟨_|⟨y,Y⟩,rfl,P⟩|rfl) S)|(exfalso;exact zG b U P h)|(exfalso;exact zG (n:=0) b U aa h)|(exfalso;exact anB z S)|(refine aD rfl (Su (B5 (a.take i)) (by rw[aac aa];exact z)) ?_;rintro _ rfl)|exact g1 rfl rfl rfl|(apply aV [6,25,26,27] [] [6,27] (RNz a) (a.length) [CH,iV .i64 0];(iterate 3 exact ae);exact⟨0,aa,rfl,rfl⟩;rintro _ _ ⟨q,d,rfl,rfl⟩)|(refine aI [6,25,26,27] [] ?_;(conv=>whnf);exact⟨rfl,_,[_,_],RNz.next U aa,rfl,rfl,rfl,aa⟩)|(apply aV [0,3,9,10,11] [] [3,11] (RCz a) (a.length) [iV .i64 0,iV .i64 0];(iterate 3 exact ae);exact⟨0,aa,rfl,by simp[B5]⟩;rintro _ _ ⟨i,I,rfl,rfl⟩)|(refine aI [0,3,9,10,11] [] ?_;(conv=>whnf);exact⟨rfl,_,[_,_],RCz.next b U aa S (by simp[AK]),rfl,rfl,rfl,aa⟩))
def amZ:Tryz.prog.underlying 40=some (.slice 56):=ag
def asL:qy Tryz.prog 56=some (5,56):=ag
def amJ:j9 Tryz.prog 56=some [.t (tI 0),.t (tI 0),.t (tI 0),.t (tI 0),.t dw]:=ag
def ahB(O:zs.length<=400000)(Y:ys.length<=100000):zs.length=(tr zs).length/\((tr zs).length+((ys.map λe=>e.map C.t).length+1)) * 56<=bh/\(tr zs).length+((ys.map λe=>e.map C.t).length+1)<=maxLen:=by
 refine⟨by simp[tr],?_,?_⟩
 . simp only[tr,abo,bh];omega
 . simp only[tr,abo,maxLen];omega
def We(n:Nat)(O:1<=n)(K:n<=1000000): ∃ts N,yw Tryz.prog 82 [.one (.t dw),oI n] (aR ts) N/\GNc 5 ts N:=by
 refine jc Tryz.func82 ?_
 repeat' ((conv=>whnf);first|refine aJ (λh=>?_) (λh=>?_)|refine oZ (aa7 _) aa (.inr rfl) ?_|refine And.intro aa ?_|refine nA (op:= .call ⟨.builtin .cap, #[.tmp _], #[40]⟩) (v:=iV .i64 0) ag ?_|refine nA (op:= .slice 40 (.tmp 17) none (some (.tmp 19)) none) (v:=CH) ag ?_|refine LZ (m:=n - 1) rfl rfl (Nc O K) amZ uIn asL amJ rfl aa aa ?_|exact gNc rfl rfl rfl|(exfalso;rw[HY K]at h;omega))
def GLz(sz:Nat)(zs:Lz)(ts:Lw):Prop:=ts=[oL sz zs]
def NB(a:Lz)(b:∀e,e∈a->IR 5 e)(U:a.length<=4)(O:1<=B5 a):Tg 52 [oL 1 a] (GLz 5 (a.flatMap AK)):=by
 refine aS ?_;refine aC Tryz.func52 ?_
 repeat' ((conv=>whnf);first|refine aJ (λh=>?_) (λh=>?_)|(refine aG (xs:=a) (n:=(i:Int)) b aa aa ?_;rintro _ (⟨Y,rfl,P⟩|rfl) S)|(refine aG (xs:=a) (n:=(q:Int)) b aa aa ?_;rintro _ (⟨_|⟨y,Y⟩,rfl,P⟩|rfl) S)|(exfalso;exact zG b U P h)|(exfalso;exact zG (n:=0) b U aa h)|refine And.intro (ahB (by have:=E2 b U q;rw[A];exact this) (by simp at P;omega)) ?_|(refine N4 rfl (GNc.new (We (B5 (a.take i)) afq (by have:=E2 b U i;omega))) ?_;rintro _ rfl)|exact nt rfl (df rfl rfl (xs:=M) rfl aa) (by rw[cD rfl,GLz,A,aac aa])|(apply bp [6,25,26,27] [] [6,27] [(4,5)] (Zz 5 a) (a.length) [bD 4 5 0,iV .i64 0];(iterate 3 exact ae);exact .cons (aL.aM (xs:=[]) rfl _) .nil;exact⟨0,[],aa,rfl,rfl,rfl,ak⟩;rintro _ _ _ ⟨q,M,d,rfl,rfl,rfl,A⟩)|(refine aI [6,25,26,27] [] ?_;(conv=>whnf);first|exact⟨rfl,_,[_,_],_,.cons (aL.aM (xs:=M) rfl _) .nil,Zz.same U aa S rfl A,rfl,rfl,aa⟩|exact⟨rfl,_,[_,_],_,.cons (aL.aM (aL.ya (xs:=M) rfl (y::Y)) _) .nil,Zz.ya U aa S A iC,rfl,rfl,aa⟩)|(apply aV [0,3,9,10,11] [] [3,11] (RCz a) (a.length) [iV .i64 0,iV .i64 0];(iterate 3 exact ae);exact⟨0,aa,rfl,by simp[B5]⟩;rintro _ _ ⟨i,I,rfl,rfl⟩)|(refine aI [0,3,9,10,11] [] ?_;(conv=>whnf);exact⟨rfl,_,[_,_],RCz.next b U aa S (by simp[AK]),rfl,rfl,rfl,aa⟩))
def GEq(p:Prop)(ts:Lw):Prop:= ∃b,ts=[oB b]/\(b=true↔p)
def REq(xs ys:Lz)(m:Nat)(vs:List V):Prop:= ∃i:Nat,i<=xs.length/\m=xs.length - i/\vs=[iV .i64 (i:Int)]/\xs.take i=ys.take i
def wF{i:Nat}(h:xs.take i=ys.take i)(S:xs[((i:Int)).toNat]? =some e)(O:ys[((i:Int)).toNat]? =some J)(H:e=J):xs.take (i+1)=ys.take (i+1):=by
 rw[takeN S,takeN O,h,H]
def OV(O:xs[n]? =some e)(Y:ys[n]? =some J)(h:¬e=J):¬xs=ys:=λH=>h (by rw[H,Y]at O;injection O with O;exact O.symm)
def Vc(h:¬ (xs.length:Int)=(ys.length:Int)):¬xs=ys:=λe=>h (by rw[e])
def ajQ{a b c N Q K:Int}(h:(!(a==N&& (b==Q&& (c==K&&true))))=false):([tI a,tI b,tI c]:Lt)=[tI N,tI Q,tI K]:=by
 simp at h;obtain⟨rfl,rfl,rfl⟩:=h;rfl
def ajP{a b c N Q K:Int}(h:(!(a==N&& (b==Q&& (c==K&&true))))=true):¬ ([tI a,tI b,tI c]:Lt)=[tI N,tI Q,tI K]:=by
 intro e;simp at e;obtain⟨rfl,rfl,rfl⟩:=e;simp at h
def all_eq{i:Nat}(U:(xs.length:Int)=(ys.length:Int))(I:¬ (i:Int) < (xs.length:Int))(h:xs.take i=ys.take i):xs=ys:=by
 rwa [aac aa,aac aa]at h
def wO(xs ys:Lz)(hx:I3 xs)(hy:I3 ys)(U:xs.length<=100000):Tg 57 [oL 3 xs,oL 3 ys] (GEq (xs=ys)):=by
 refine aC Tryz.func57 ?_
 repeat' ((conv=>whnf);first|refine bZz (λh=>?_) (λh=>?_)|(refine aG (xs:=xs) hx aa aa ?_;rintro _ ⟨a,b,c,rfl⟩ S)|(refine aG (xs:=ys) hy aa aa ?_;rintro _ ⟨N,Q,K,rfl⟩ O)|refine And.intro ag ?_|exact g1 rfl rfl ⟨_,rfl,iff_of_false av (Vc ai)⟩|exact g1 rfl rfl ⟨_,rfl,iff_of_false av (OV S O (ajP ai))⟩|exact g1 rfl rfl ⟨_,rfl,iff_of_true rfl (all_eq ai ai F)⟩|(apply aV [0,1,12,13] [] [13] (REq xs ys) (xs.length) [iV .i64 0];(iterate 3 exact ae);exact⟨0,aa,rfl,rfl,rfl⟩;rintro _ _ ⟨i,I,rfl,rfl,F⟩)|(refine aI [0,1,12,13] [] ?_;(conv=>whnf);exact⟨rfl,_,[_],⟨i+1,aa,rfl,by rw[bF aa aa];rfl,wF F S O (ajQ ai)⟩,rfl,rfl,rfl,aa⟩))
def W5(ys:Lz)(hy:ys≠ []):Tg 57 [.one (.t dw),oL 3 ys] (GEq False):=by
 have O:ys.length≠0:=λh=>hy (abd.1 h);refine aC Tryz.func57 ?_
 repeat' ((conv=>whnf);first|refine bG (λh=>?_) (λh=>?_)|exact g1 rfl rfl ⟨_,rfl,ak⟩|(exfalso;simp at h;omega))
def W6(ys:Lz)(hy:ys≠ []):Tg 57 [oL 3 ys,.one (.t dw)] (GEq False):=by
 have O:ys.length≠0:=λh=>hy (abd.1 h);refine aC Tryz.func57 ?_
 repeat' ((conv=>whnf);first|refine bG (λh=>?_) (λh=>?_)|exact g1 rfl rfl ⟨_,rfl,ak⟩|(exfalso;omega))
def W4(_u:Unit):Tg 57 [.one (.t dw),.one (.t dw)] (GEq True):=by
 refine aC Tryz.func57 ?_
 repeat' ((conv=>whnf);first|exact g1 rfl rfl ⟨_,rfl,ak⟩|(apply aV [0,1,12,13] [] [13] (RI 0) (0) [iV .i64 0];(iterate 3 exact ae);exact RI.zero;rintro _ _ ⟨i,I,rfl,rfl⟩))
def sum_nil(_u:Unit): ∃ts,Fn Tryz.prog 59 [.one (.t dw)] [] (aR ts) []/\(aR ts).cR=true/\(λts=>ts=[oI 0]) ts:=by
 refine aS ?_;refine aC Tryz.func59 ?_
 repeat' ((conv=>whnf);first|exact nt rfl (cv rfl) (by simp[iO])|(apply aV [3,6,7,8] [] [3,8] (RSu []) (0) [iV .i64 0,iV .i64 0];(iterate 3 exact ae);exact⟨0,aa,rfl,rfl⟩;rintro _ _ ⟨i,I,rfl,rfl⟩))
def Tl(L:Lz)(w:Int):T:=if w∈dL L then .aO 3 (jC L w)else dw
def Ho(h:w∈dL L):jC L w≠ []:=by
 obtain⟨e,O,Y⟩:=(Oe L w).1 h;intro B
 have:e∈jC L w:=by
  unfold jC;rw[acu];exact⟨O,xT⟩
 rw[B]at this;simp at this
def U1(h:I3 L)(w:Int):I3 (jC L w):=λe H=>h e (acu.1 H).1
def BF(L:Lz)(w:Int):(jC L w).length<=L.length:=adE _ _
def ajF(R:I3 L)(U:L.length<=1000)(w:Int):Te 59 [.one (.t (Tl L w))] [oI (iO (jC L w))]:=by
 unfold Tl;split
 . exact S1 _ (U1 R w) (by have:=BF L w;omega)
 . rename_i h;rw[yZ h];exact sum_nil ()
def afZ{A B:Lz}(a:I3 A)(x:I3 B)(U:A.length<=1000)(w:Int):Tg 57 [.one (.t (Tl A w)),.one (.t (Tl B w))] (GEq (jC A w=jC B w)):=by
 unfold Tl;split<;>split
 . exact wO _ _ (U1 a w) (U1 x w) (by have:=BF A w;omega)
 . rename_i O Y;obtain⟨Z,F,d,b,h,c⟩:=W6 _ (Ho O);exact⟨Z,F,d,b,h,c.trans (iff_of_false (λh=>h) (λe=>Ho O (e.trans (yZ Y))))⟩
 . rename_i O Y;obtain⟨Z,F,d,b,h,c⟩:=W5 _ (Ho Y);exact⟨Z,F,d,b,h,c.trans (iff_of_false (λh=>h) (λe=>Ho Y (e.symm.trans (yZ O))))⟩
 . rename_i O Y;obtain⟨Z,F,d,b,h,c⟩:=W4 ();exact⟨Z,F,d,b,h,c.trans (iff_of_true trivial ((yZ O).trans (yZ Y).symm))⟩
def aD1(h:j < (dL L).length):(eF L)[j]? =some (.int .i64 (su (dL L) j),.t (.aO 3 (FW L j)),j):=by
 have J:(List.range (dL L).length)[j]? =some j:=by simp[h]
 simp only[eF,yu,J,wv]
def agE(L:Lz):∀p,p∈eF L->mz p.1:=λp F=>by
 simp only[eF,aad]at F;obtain⟨j,_,rfl⟩:=F;exact⟨_,rfl⟩
def agD(L:Lz)(w:Int)(e:Bool):(w∉dL L/\iY Tryz.prog e 3 (.int .i64 w) (eF L)=some none)\/(w∈dL L/\ ∃j b,iY Tryz.prog e 3 (.int .i64 w) (eF L)=some (some j)/\(eF L)[j]? =some (.int .i64 w,.t (.aO 3 (jC L w)),b)):=by
 rcases(iu Tryz.underlying3).at_ (eF L) (.int .i64 w) e (agE L) ⟨_,rfl⟩with⟨O,Y⟩|⟨i,⟨N,c,b⟩,O,Y,B⟩
 . refine .inl ⟨λa=>?_,O⟩;obtain⟨j,Q,I⟩:=T8 a;exact Y _ (oo (aD1 Q)) (by rw[I])
 . obtain⟨g,Z,D,G⟩:=Xf Y;simp only at B;rw[Z,Value.int.injEq]at B;have a:=B.2;have o:FW L i=jC L w:=by simp only[FW,g,if_true,a]
   refine .inr ⟨?_,i,b,O,by rw[Y,Z,D,a,o]⟩;rw[<-a];simp only[su,aba,YI g,YJ];exact aaC g
def alA{hp:HS}(R:find hp id=some (.mp (eF L) c)):fU Tryz.prog 149 (.w (.one (.map id))) (iV .i64 w) false hp=some (.w (.one (.t (Tl L w)))):=by
 have G:(iV .i64 w).val? =some (.int .i64 w):=rfl;simp only[fU,G,Tryz.underlying149,R];rcases agD L w (eF L).isEmpty with⟨O,Y⟩|⟨O,j,b,Y,B⟩
 . rw[Y];simp only[Tl,if_neg O];rfl
 . rw[Y];simp only[B,Tl,if_pos O];rfl
def ZX{a:Nat}{ty:TypeId}{tm:TS}{hp:HS}{K:V->HS->Prop}(r:find tm a=some (.w (.one (.map id))))(hx:find tm b=some (iV .i64 w))(R:find hp id=some (.mp (eF L) c))(Z:K (.w (.one (.t (Tl L w)))) hp):
 ∃v hp',YB Tryz.prog (.lookup 149 (.tmp a) (.tmp b) false) ty tm hp ctr v hp'/\K v hp':=by
 refine⟨_,_,⟨λd=>rfl,?_⟩,Z⟩;rintro n ⟨g,y,B,O,Y,l⟩ rfl rfl;have H:St.get ⟨n,tm,hp⟩ (.tmp a)= .w (.one (.map id)):=Y1
 have o:St.get ⟨n,tm,hp⟩ (.tmp b)=iV .i64 w:=PL
 simp only[aK,H,o,alA R,wv]
def ZU{a:Nat}{ty:TypeId}{tm:TS}{hp:HS}{K:V->HS->Prop}(r:find tm a=some (.w (.one (.map id))))(hx:find tm b=some (iV .i64 w))(R:find hp id=some (.mp (eF L) c))(Z:K (.w (.one (.t (Tl L w)))) hp):
 ∃v hp',jA Tryz.prog n (.lookup 149 (.tmp a) (.tmp b) false) ty tm hp ctr v hp'/\K v hp':=by
 refine⟨_,_,?_,Z⟩;rintro⟨g,y,B,O,Y,l⟩ rfl rfl;refine jz ?_;have H:St.get ⟨n,tm,hp⟩ (.tmp a)= .w (.one (.map id)):=Y1
 have o:St.get ⟨n,tm,hp⟩ (.tmp b)=iV .i64 w:=PL
 simp only[aK,H,o,alA R,wv]
end Go.aW.Cd
namespace Go.aW
open Go
variable{P:Program}{M A:agt}{ρ:Env}{F:agt}{st:St}{a:Act}{w:World}
def OH(m:Nat)(ids:List Nat):Prop:= ∀k,k < m->ids[k]? =some k
def atQ(P:Program)(rs:List ResultVar)(z:HS)(m:Nat)(Good:Lw->HS->Prop):Exit->TS->HS->Nat->Prop
 | .normal,d,F,_| .ret,d,F,_=> ∃A a,bg P F d rs=some A/\(a.length<=4/\a.Nodup/\OH m a)/\Good (A.map (W.aM (bI a))) (cG (bI a) F 0 a)|_,_,_,_=>False
variable{args:Lw}{hin:HS}
def Wy{Tb:Tables}[pG P Tb]{f:FuncId}{fn:Func}{r:Rc}{n m:Nat}{rs:List ResultVar}{Good:Lw->HS->Prop}(R:P.funcs[f]? =some fn)(h:X P n r (atQ P rs hin m Good) (dz 0 args) hin 4)
 (I:fnI Tb fn=some (n,rs,r):=by conv=>lhs;cbv) (U:args.length<=n:=by simp): ∃ts hout,TH P m f args hin (aR ts) hout/\Good ts hout:=by
 obtain⟨c,G,J,K,gy⟩:=zw (P:=P) I;subst K;subst gy;obtain⟨e,st',c',⟨hn',d⟩,hw⟩:=X.Y8 J h;obtain⟨n',tm',hp'⟩:=st';simp only at hn' d;subst hn'
 have main:∀us ids,uP e->bg P hp' tm' fn.results.toList=some us->(ids.length<=4/\ids.Nodup/\OH m ids)->Good (us.map (W.aM (bI ids))) (cG (bI ids) hp' 0 ids)-> ∃ts hout,TH P m f args hin (aR ts) hout/\Good ts hout:=by
  intro vs ids H iG aqW hg;obtain⟨aCY,hnd,uf⟩:=aqW;refine⟨_,_,?_,hg⟩;intro w A ρ o hρ0 hH hxs;refine calls_of_wp R G ?_;have hl':args.length=o.size:=YT
  have cP:Rel (λb=>pK ρ hin b\/w.heap.size<=b) A ρ (bJ 4) ⟨fn.ntmps,dz 0 args,hin⟩ {tmps:=o++Array.replicate (fn.ntmps - o.size) undef,defers:=[]} w:=by
   refine⟨by simp;omega,rfl,λt v z=>?_,hH.heap,hH.inj,hH.fresh,hH.bound,hH.may,hH.dR⟩;obtain⟨_,u,L,rfl⟩:=eS _ _ _ _ z;simp only[ad4]at L;have ht:t < o.size:=by rw[<-hl'];exact(jl.1 L).1
   have yA:o.toList[t]? =some o[t]:=by simp[ht]
   have:=hxs.2 t u _ L yA;have e:(o++Array.replicate (fn.ntmps - o.size) undef).getD t undef=o[t]:=V1
   rw[e];exact this
  refine wp_mono (hw _ A ρ _ w cP) ?_;rintro e2 a' w' ⟨st2,c2,D,ρ',⟨rfl,rfl,rfl⟩,cU,eU,cI,MY⟩;obtain⟨Z,hvs,M⟩:=eA cU iG
  have F:(fn.results.mapM λ(r:ResultVar)=>match r with
   | .tmp t=>(pure (a'.tmps.getD t undef):Sem Value)
   | .cell b t=>do loadVar t (<-asAddr (a'.tmps.getD b undef))).run P w'= .ok Z.toArray w':=by
   rw[ab1];simp only[Sem.run_map];exact(congrArg (λr:Result (List Value)=>Result.andThen r λa w'=>Result.ok a.toArray w') hvs).trans rfl
  have hrun:(results fn a'.tmps).run P w'= .ok (if h:Z.toArray.size=1 then Z.toArray[0]else .tuple Z.toArray) w':=by
   show(Bind.bind (fn.results.mapM λ(r:ResultVar)=>match r with
    | .tmp t=>(pure (a'.tmps.getD t undef):Sem Value)
    | .cell b t=>do loadVar t (<-asAddr (a'.tmps.getD b undef))) λvs=>Pure.pure (if h:vs.size=1 then vs[0]else .tuple vs)).run P w'=_
   rw[Sem.run_bind,F];rfl
  let ρ2:Env:=λj=>(ids[j]?).bind ρ'
  have hρ2:∀id k l,bI ids id=some k->ρ' id=some l->ρ2 k=some l:=by
   intro id k l O Y;simp only[ρ2,fJ O,Tf,Y]
  have hidx:∀ {i j id:Nat},ids[i]? =some id->ids[j]? =some id->i=j:=by
   intro i j id O Y;obtain⟨I,e1⟩:=jl.1 O;obtain⟨Q,e2⟩:=jl.1 Y;exact(adx hnd).1 (e1.trans e2.symm)
  have aDl:jm ρ ρ2:=by
   intro j l Q U;rcases aa8 j m with hjm|hjm
   . simp only[ρ2,uf j hjm,Tf];exact cI j l Q U
   . rw[hρ0 j hjm]at U;simp at U
  have hlen:(vs.map (W.aM (bI ids))).length=vs.length:=ak
  have one:∀ (k:Nat) (u:W) (y:Value),(vs.map (W.aM (bI ids)))[k]? =some u->(∀v,vs[k]? =some v->RW w' D ρ' v y)->RW w' D ρ2 u y:=by
   intro k u y L z;simp only[yu,jU]at L;obtain⟨v,kV,rfl⟩:=L;exact(z v kV).aM hρ2
  have fin:a'.defers=[]/\ ∃v,(results fn a'.tmps).run P w'= .ok v w'/\ ∃x D ρ' F',Ending.returned v= .returned x/\RV w' D ρ' (aR (vs.map (W.aM (bI ids)))) x/\HR (λb=>pK ρ hin b\/w.heap.size<=b) D ρ' F' (cG (bI ids) hp' 0 ids) w'/\
   dA (λb=>pK ρ hin b\/w.heap.size<=b) w w'/\jm ρ ρ'/\fZ (λb=>pK ρ hin b\/w.heap.size<=b) A D w:=by
   refine⟨cU.defers,_,hrun,_,D,ρ2,bJ 4,rfl,?_,⟨rfl,rfl,λt v z=>by simp[find]at z,?_,?_,?_,cU.bound,λb G=> .inr (aal eU.size G),cU.dR⟩,eU,aDl,MY⟩
   . generalize hts:vs.map (W.aM (bI ids))=ts at hlen one⊢;clear hts
     match vs,Z,ts,M,hlen,one with
     | [],[],[],_,_,_=>exact⟨#[],ak,rfl,ak⟩
     | [u],[v],[t],M,_,one=>exact one 0 t v rfl (λv' kV=>by simp only[yq,ii]at kV;subst kV;exact M.2 0 u v rfl rfl)
     |u::u2::r,v::v2::s,t::t2::q,M,hlen,one=>
      have hne:¬ (v::v2::s).toArray.size=1:=ak
      simp only[hne,dite_false];refine⟨_,rfl,?_,λk x y N S=>one k x y N (λv' kV=>M.2 k v' y kV aA)⟩;have:=M.1;simp at this hlen⊢;omega
     | [],_::_,_,M,_,_=>exact absurd M.1 ak
     |_::_,[],_,M,_,_=>exact absurd M.1 ak
     | [_],_::_::_,_,M,_,_=>exact absurd M.1 ak
     |_::_::_,[_],_,M,_,_=>exact absurd M.1 ak
     | [],[],_::_,_,hlen,_=>simp at hlen
     | [_],[_],[],_,hlen,_=>simp at hlen
     | [_],[_],_::_::_,_,hlen,_=>simp at hlen
     |_::_::_,_::_::_,[],_,hlen,_=>simp at hlen
     |_::_::_,_::_::_,[_],_,hlen,_=>simp at hlen
   . intro j blk R;obtain⟨i,id,b',rfl,Y,B,rfl⟩:=cH R;exact(cU.heap id b' B).aM hρ2 (λl U=>by simp only[aas,ρ2,Y,Tf,U]) (λb _ G=>G)
   . intro j j' blk gU b O Y r1 r2;obtain⟨i,id,b1,rfl,B,g,_⟩:=cH O;obtain⟨i',id',b2,rfl,C8,h4',_⟩:=cH Y;simp only[aas,ρ2,B,C8,Tf]at r1 r2;have:=cU.inj id id' b1 b2 b g h4' r1 r2;subst this;rw[hidx B C8]
   . intro j Q;simp only[ρ2];rw[abe WY];rfl
  rcases H with rfl|rfl
  . exact fin
  . exact fin
 cases e with
 |normal=>obtain⟨us,ids,O,Y,B⟩:=d;exact main us ids (.inl rfl) O Y B
 |ret=>obtain⟨us,ids,O,Y,B⟩:=d;exact main us ids (.inr rfl) O Y B
 |_=>exact d.elim
def vg{f:FuncId}{us:Lw}{hp z:HS}{ctr m:Nat}{K:V->HS->Nat->Prop}{Good:Lw->HS->Prop}(ids:List Nat)(I:uQ ids ctr=true)(r:ids.length=m)(h: ∃ts N,TH P m f args z (aR ts) N/\Good ts N)
 (w:us.map (W.aM (bI ids))=args) (d:cG (bI ids) hp 0 ids=z) (Z:∀ts N,Good ts N->K ((aR ts).aM (ic ids ctr)) (fT (ic ids ctr) N++gR ids hp) (ctr+4)): ∃v hp' c',dI P f us hp ctr v hp' c'/\K v hp' c':=by
 obtain⟨ts,N,O,Y⟩:=h;subst r;exact⟨_,_,_,Iq ids I O w d,Z ts N Y⟩
def TH.ajB{m:Nat}{f:FuncId}{rest:HS}{res:V}{sz:Nat}{cs cs':Lc}(h:TH P m f args hin res ((0,.row sz [cs])::rest))(D:dm cs cs'):TH P m f args hin res ((0,.row sz [cs'])::rest):=by
 intro w A ρ o z hH N;refine(h w A ρ o z hH N).mono ?_;rintro e F ⟨x,l,Z,F',O,Y,M,g,U,h6⟩
 have old:∀ {q:Nat} {bl:bE},find ((0,bE.row sz [cs'])::rest) q=some bl-> ∃AB,find ((0,bE.row sz [cs])::rest) q=some AB:=by
  intro q bl d;simp only[aF]at d⊢;split at d
  . rename_i e';rw[if_pos e'];exact⟨_,rfl⟩
  . rename_i e';rw[if_neg e'];exact⟨_,d⟩
 refine⟨x,l,Z,F',O,Y,⟨M.size,M.defers,M.tmps,λid Q G=>?_,λid1 Et b1 b2 b g1 g2 r S=>?_,M.fresh,M.bound,M.may,M.dR⟩,g,U,h6⟩
 . simp only[aF]at G;split at G
   . rename_i e';subst e';simp only[ii]at G;subst G;obtain⟨s,v⟩:=M.heap 0 (.row sz [cs]) Iw;refine⟨λn hel=>?_,?_⟩
     . simp only[vv]at hel;subst hel;rw[<-D.len];exact s cs ak
     . rcases v with⟨b,c,t,q1,q2,q3,q4,q5,q6⟩|⟨_,H⟩
       . refine .inl ⟨b,c,t,q1,q2,q3,q4,by simpa using q5,λi n j q I d=>?_⟩
         cases i with
         |zero=>
          simp only[yq,ii]at I;subst I;obtain⟨a,L,hle⟩:=D.get d;obtain⟨y,B,J,hcell⟩:=q6 0 cs j a rfl L;exact⟨y,B,hle.rc J,hcell⟩
         |succ i=>simp at I
       . simp at H
   . rename_i e';exact M.heap id Q (by rw[aF,if_neg e'];exact G)
 . obtain⟨R,f1⟩:=old g1;obtain⟨K,f2⟩:=old g2;exact M.inj id1 Et R K b f1 f2 r S
end Go.aW
namespace Go.aW.Cd
open Go Go.Proofs
variable[kw]
def jk.lay{r:Rn}(J:jk r):AF r.sizes r.places r.plies:=⟨J.hz,J.iF,J.hp,J.eX,λe H=>by obtain⟨l,q,h,_⟩:=J.hy e H;exact⟨l,_,h⟩,J.iI⟩
abbrev CE(r:Rn):W:=pn r.ln r.wd r.rx r.ry r.sizes r.places r.plies
abbrev Ej(r:Rn):W:=dV r.sn r.bk r.ms r.ps r.us r.ss r.os
def CkQ(r:Rn)(cuts:Lz)(n:Int):Prop:=n=0->r.plies.length<=40/\kA r.sizes r.plies r.bs r.bs.length/\cuts.length<=2400/\ ∀e,e∈cuts->Tc r.plies.length r.places.length e
def Qw(r:Rn)(cuts:Lz):Int:=pk 41 [Ej r,CE r,oL 6 r.bs,oL 6 cuts] (λn=>[oI n]) (CkQ r cuts)
def rP(r:Rn)(J:jk r)(cuts:Lz)(D:Jb cuts)(y:cuts.length<=1000000): ∃ts,Fn Tryz.prog 41 [Ej r,CE r,oL 6 r.bs,oL 6 cuts] [] (aR ts) []/\(aR ts).cR=true/\(ts=[oI (Qw r cuts)]/\CkQ r cuts (Qw r cuts)):=by
 obtain⟨M,H,h⟩:=DC r.sn r.bk r.ms r.ps r.us r.ss r.os J.hS r.ln r.wd r.rx r.ry r.sizes r.places r.plies J.lay r.bs J.hb oa;obtain⟨ts,O,Y,rfl⟩:=h cuts D bq;refine lp (enc:=λn=>[oI n]) (Q:=CkQ r cuts) ⟨_,O,Y,λz=>?_⟩;obtain⟨s,v,g⟩:=aD9 z;exact⟨(H s).1,(H s).2,v,g⟩
def ChQ(r:Rn)(cuts gs:Lz)(n:Int):Prop:=(n=0->DZ (Qw r cuts) r.places r.plies cuts r.bs gs)/\(DZ (Qw r cuts) r.places r.plies cuts r.bs gs->n=0)/\(Qw r cuts=0->gs.length<=240->DU r.places r.plies cuts r.bs gs->n=7)
def Aw(r:Rn)(cuts gs:Lz):Int:=pk 53 [Ej r,CE r,oL 6 r.bs,oL 6 cuts,oL 5 gs] (λn=>[oI n]) (ChQ r cuts gs)
def rQ(r:Rn)(J:jk r)(cuts:Lz)(D:Jb cuts)(y:cuts.length<=1000000)(gs:Lz)(hg:∀e,e∈gs->nc e)(vU:gs.length<=1000000): ∃ts,Fn Tryz.prog 53 [Ej r,CE r,oL 6 r.bs,oL 6 cuts,oL 5 gs] [] (aR ts) []/\(aR ts).cR=true/\(ts=[oI (Aw r cuts gs)]/\ChQ r cuts gs (Aw r cuts gs)):=by
 obtain⟨ts,O,Y,rfl,I⟩:=rP r J cuts D y;obtain⟨ts,s,v,n,rfl,H⟩:=DD r.sn r.bk r.ms r.ps r.us r.ss r.os r.ln r.wd r.rx r.ry r.sizes r.places r.plies r.bs cuts gs J.lay J.hb (by have:=J.pJ;omega) D y hg bq (Qw r cuts) ⟨_,O,Y,rfl⟩ (λz=>⟨rq J.hb (I z).2.1,(I z).2.2.2⟩);exact lp (enc:=λn=>[oI n]) (Q:=ChQ r cuts gs) ⟨n,s,v,H⟩
def IL:Lz->T
 | []=>dw|g::gs=> .aO 5 (g::gs)
def atJ{acc:Lz}(h:acc.length<=100000):IR 5 [IL acc]/\AK [IL acc]=acc:=by
 cases acc with
 |nil=>exact⟨.inr rfl,rfl⟩
 |cons g gs=>exact⟨.inl ⟨_,rfl,h⟩,rfl⟩
def QI{acc gs:Lz}(h:gs≠ []):T.aO 5 (acc++gs)=IL (acc++gs):=by
 cases acc with
 |nil=>cases gs with
  |nil=>exact absurd rfl h
  |cons g gs=>rfl
 |cons a acc=>rfl
def rfC(id:Nat):Lz->C
 | []=> .t dw|z::M=> .own id 3 0 (M.length+1)
def rfH(id:Nat):Lz->HS
 | []=>[]|z::M=>[(id,.row 3 (tr (z::M)))]
abbrev OI(r:Rn)(cuts:Lz)(a:T)(c:C):bE:= .row 26 [[.t (.val (.string r.sn)),.t (.aO 1 r.bk),.t (.aO 1 r.ms),.t (.aO 7 r.ps),.t (.aO 3 r.us),.t (.aO 6 r.ss),.t (.aO 5 r.os),.t (.aO 7 r.aH),.t (.aO 1 r.lots),.t (tI r.ln),.t (tI r.wd),.t (tI r.rx),.t (tI r.ry),.t (.aO 1 r.sizes),.t (.aO 7 r.places),.t (.aO 2 r.plies),.t (.aO 6 r.bs),.t (.aO 5 r.gs),.t (.aO 2 r.ws),.t (.aO 4 r.xs),.t (tI r.r),.t (tI r.l),.t (.aO 3 r.eB),.t (.aO 6 cuts),.t a,c]]
abbrev HA(r:Rn)(cuts acc zs:Lz)(id:Nat):HS:=(0,OI r cuts (IL acc) (rfC id zs))::rfH id zs
def mA:Lz->Nat
 | []=>1|_::_=>2
def GAd(r:Rn)(cuts a acc zs:Lz)(ts:Lw)(hout:HS):Prop:=ts=[]/\((zs=[]/\hout=HA r cuts acc [] 1)\/(∃z q,zs=z::q/\hout=HA r cuts acc (z::q) 1)\/(a≠ []/\ ∃z q,zs=z::q/\hout=HA r cuts acc (z::q) 2))
structure AdB(acc gs zs:Lz)(i:Int):Prop where
 g:∀e,e∈acc++gs->nc e
 l:acc.length+gs.length<=1000
 z:zs.length+gs.length<=1000
 i0:0<=i
 i1:i+(gs.length:Int)<=1000
def AdS(r:Rn)(cuts:Lz)(n:Nat):Prop:= ∀ (acc gs M:Lz) (i:Int),gs.length<=n->AdB acc gs M i->
 ∃Z hout,TH Tryz.prog (mA M) 24 [.one (.ptr 0 26 0 0),oL 5 gs,oI i] (HA r cuts acc M 1) (aR Z) hout/\GAd r cuts M (ef (Aw r cuts) n acc gs i).1 (M++(ef (Aw r cuts) n acc gs i).2) Z hout
def V6{n:Nat}(h:n<=1000):IntKind.i64.wrap (((n:Nat):Int).tdiv 2)=((n / 2:Nat):Int):=by
 rw[abH aa,bF aa aa];omega
def Kt{r:Rn}{cuts:Lz}{a:T}{hp:HS}(h:find hp 0=some (OI r cuts a (.t dw))):cG (bI [0]) hp 0 [0]=[(0,OI r cuts a (.t dw))]:=by
 simp only[cG,h];rfl
section
variable{r:Rn}{cuts:Lz}{a:T}{hp:HS}{id:Nat}{z:Lt}{q:Lz}{rows:Lq}
def sU{n:Nat}(K:n=q.length+1)(s:id≠0)(h:find hp 0=some (OI r cuts a (.own id 3 0 n)))(Y:find hp id=some (.row 3 rows))(M:aL rows (z::q)):cG (bI [0,id]) hp 0 [0,id]=[(0,OI r cuts a (.own 1 3 0 (q.length+1))),(1,.row 3 (tr (z::q)))]:=by
 subst K;have e:bI [0,id] id=some 1:=by simp[bI,Ne.symm s]
 simp only[cG,h,Y,bE.aM,aaq,abh,C.aM,e];rw[M,gk]
def VX{n:Nat}(K:n=q.length+1)(s:id≠0)(O:id≠1)(h:find hp 0=some (OI r cuts a (.own id 3 0 n)))(B:find hp 1=none)(Y:find hp id=some (.row 3 rows))(M:aL rows (z::q)):cG (bI [0,1,id]) hp 0 [0,1,id]=[(0,OI r cuts a (.own 2 3 0 (q.length+1))),(2,.row 3 (tr (z::q)))]:=by
 subst K;have e:bI [0,1,id] id=some 2:=by simp[bI,Ne.symm s,Ne.symm O]
 simp only[cG,h,Y,B,bE.aM,aaq,abh,C.aM,e];rw[M,gk]
variable{A Z Z0:Lz}{hout:HS}
def Wm(w:a=IL A)(M:Z=[])(h:hout=[(0,OI r cuts a (.t dw))]):GAd r cuts Z0 A Z [] hout:=⟨rfl,.inl ⟨M,by rw[h,w];rfl⟩⟩
def Da(w:a=IL A)(M:Z=z::q)(h:hout=[(0,OI r cuts a (.own 1 3 0 (q.length+1))),(1,.row 3 (tr (z::q)))]):GAd r cuts Z0 A Z [] hout:=⟨rfl,.inr (.inl ⟨z,q,M,by rw[h,w];rfl⟩)⟩
def Wl(s:Z0≠ [])(w:a=IL A)(M:Z=z::q)(h:hout=[(0,OI r cuts a (.own 2 3 0 (q.length+1))),(2,.row 3 (tr (z::q)))]):GAd r cuts Z0 A Z [] hout:=⟨rfl,.inr (.inr ⟨s,z,q,M,by rw[h,w];rfl⟩)⟩
end
def sm1{l:List Nat}:OH 1 (0::l):=λk Z=>by
 have:k=0:=aa
 subst this;rfl
def sm2{l:List Nat}:OH 2 (0::1::l):=λk Z=>by
 have:k=0\/k=1:=aa
 rcases this with rfl|rfl<;>rfl
section
variable{chk:Lz->Int}{n:Nat}{acc gs:Lz}{i i2:Int}
def QG(h:gs.length=0):ef chk n acc gs i=(acc,[]):=by
 rw[abd.1 h,Lv]
def QF(K:gs.length<=n)(z:chk (acc++gs)=0):ef chk n acc gs i=(acc++gs,[]):=yg K λ_=>z
def QE(K:gs.length<=n)(h:gs.length≠0)(z:chk (acc++gs)≠0)(Y:gs.length / 2=0):ef chk n acc gs i=(acc,[[tI 3,tI i,tI (chk (acc++gs))]]):=by
 cases n with
 |zero=>omega
 |succ n=>simp[ef,h,z,Y]
def oT(h:gs.length≠0)(z:chk (acc++gs)≠0)(Y:gs.length / 2≠0)(I:i2=i+(gs.length / 2:Nat)):ef chk (n+1) acc gs i=((ef chk n (ef chk n acc (gs.take (gs.length / 2)) i).1 (gs.drop (gs.length / 2)) i2).1,(ef chk n acc (gs.take (gs.length / 2)) i).2++(ef chk n (ef chk n acc (gs.take (gs.length / 2)) i).1 (gs.drop (gs.length / 2)) i2).2):=by
 subst I;simp only[ef,if_neg h,if_neg z,if_neg Y]
end
variable{zs:Lz}
def AdB.akQ{acc gs:Lz}{i:Int}(h:AdB acc gs zs i):AdB acc (gs.take (gs.length / 2)) zs i:=by
 have O:=h.l;have Y:=h.z;have B:=h.i1;refine⟨λe H=>h.g e ?_,?_,?_,h.i0,?_⟩
 . rcases yl.1 H with H|H
   . exact acd _ H
   . exact aby _ (aah H)
 all_goals (simp only[aab];omega)
def AdB.PN{chk:Lz->Int}{n:Nat}{acc gs:Lz}{i i2:Int}(h:AdB acc gs zs i)(I:i2=i+(gs.length / 2:Nat)):AdB (ef chk n acc (gs.take (gs.length / 2)) i).1 (gs.drop (gs.length / 2)) (zs++(ef chk n acc (gs.take (gs.length / 2)) i).2) i2:=by
 have O:=h.l;have Y:=h.z;have B:=h.i1;have g:=h.i0;have U:=yf (chk:=chk) (n:=n) (acc:=acc) (gs:=gs.take (gs.length / 2)) (i:=i);simp only[aab]at U;refine⟨λe H=>h.g e ?_,?_,?_,?_,?_⟩
 . rcases yl.1 H with H|H
   . rcases ye e H with H|H
     . exact acd _ H
     . exact aby _ (aah H)
   . exact aby _ (abc H)
 all_goals first|omega|(simp only[aax,XV];omega)|(simp only[aax];omega)
def XC{acc gs:Lz}(h:acc.length+gs.length<=1000)(hg:gs.length≠0):Tg 52 [oL 1 [[IL acc],[.aO 5 gs]]] (GLz 5 (acc++gs)):=by
 obtain⟨O,Y⟩:=atJ (acc:=acc) aa
 have e: [[IL acc],[T.aO 5 gs]].flatMap AK=acc++gs:=by
  show AK [IL acc]++(gs++[])=_;rw[Y,aa9]
 have:=NB [[IL acc],[.aO 5 gs]] (λx N=>by
  simp only[aak,aa6,or_false]at N;rcases N with rfl|rfl
  . exact O
  . exact .inl ⟨gs,rfl,aa⟩) ak (by simp only[B5,e,XV];omega)
 rwa [e]at this
def Sx{hp:HS}{d id sz len:Nat}{rows:Lq}{xs:Lz}(R:find hp id=some (.row sz rows))(M:aL rows xs)(U:len=xs.length):cA (d+1) hp (.own id sz 0 len)=some (.aO sz xs):=by
 have I:0+len<=rows.length:=by rw[M.len];omega
 simp only[cA,R,true_and,I,if_true];rw[M,o5,mF,U];simp
def Wh{a b:T}{id:Nat}:bB (bM [(id,bE.row 1 [[.t a],[.t b]])]) [.one (.own id 1 0 2)]=some [oL 1 [[a],[b]]]:=by
 have Y:cA 6 [(id,bE.row 1 [[.t a],[.t b]])] (.own id 1 0 2)=some (.aO 1 [[a],[b]]):=Sx (d:=5) (by simp only[find,if_true];rfl) (rfl:aL _ [[a],[b]]) rfl;simp only[bB,bM,Y,wv]
def agO(gs:Lz)(m:Nat):(gs.drop ((m:Int)).toNat).take (gs.length - ((m:Int)).toNat)=gs.drop m:=by
 rw[aa0,aac ak]
def axG{z:Lt}{q l:Lz}(h:z::q++l=[]):False:=agb
def akR{gs:Lz}(h:¬ ((gs.length:Nat):Int)=0):gs≠ []:=λe=>h (by rw[e];rfl)
def Gf(r:Rn)(J:jk r)(cuts:Lz)(D:Jb cuts)(y:cuts.length<=1000000)(n:Nat)(c:∀v,n=v+1->AdS r cuts v)(acc gs zs:Lz)(i:Int)(K:gs.length<=n)(G:AdB acc gs zs i): ∃ts hout,TH Tryz.prog (mA zs) 24 [.one (.ptr 0 26 0 0),oL 5 gs,oI i] (HA r cuts acc zs 1) (aR ts) hout/\GAd r cuts zs (ef (Aw r cuts) n acc gs i).1 (zs++(ef (Aw r cuts) n acc gs i).2) ts hout:=by
 have b:=G.l;have g:=G.z;have w:=G.i0;have A:=G.i1;refine Wy Tryz.func24 ?_
 repeat' ((conv=>whnf);first|refine aJ (λh=>?_) (λh=>?_)|(refine And.intro av ?_;rw[V6 aa])|refine And.intro (show(((List.take 0 ([]:Lq)).length+1) * 24<=bh/\(List.take 0 ([]:Lq)).length+1<=maxLen) by decide) ?_|(have B:e.length+1+gs.length<=1000:=g;refine And.intro ⟨by simp[tr],by simp[tr,bh];omega,by simp[tr,maxLen];omega⟩ ?_)|refine cT aa aa ?_|refine And.intro ag ?_|refine And.intro aa ?_|refine TO rfl ?_|refine LV rfl ?_|(refine qC 36 rfl rfl Wh (XC (acc:=[]) aa aa) ?_;rintro _ rfl)|(refine qC 36 rfl rfl Wh (XC (acc:=M::s) aa aa) ?_;rintro _ rfl)|(refine aN rfl (rQ r J cuts D y _ G.g (by simp only[XV];omega)) ?_;rintro _ ⟨rfl,_⟩)|(obtain⟨v,rfl⟩: ∃v,n=v+1:=⟨n - 1,aa⟩;refine vg [0] rfl rfl (c v rfl _ (gs.take (gs.length / 2)) [] i ua G.akQ) rfl (Kt (a:=IL _) rfl) ?_;rintro _ _ ⟨rfl,(⟨Z,rfl⟩|⟨F,q1,Z,rfl⟩|⟨P,F,q1,Z,rfl⟩)⟩)|(obtain⟨v,rfl⟩: ∃v,n=v+1:=⟨n - 1,aa⟩;refine vg [0,1] rfl rfl (c v rfl _ (gs.take (gs.length / 2)) (j::e) i ua G.akQ) rfl (sU (a:=IL _) rfl av rfl rfl rfl) ?_;rintro _ _ ⟨rfl,(⟨Z,rfl⟩|⟨F,q1,Z,rfl⟩|⟨P,F,q1,Z,rfl⟩)⟩)|(have d:=G.PN (chk:=Aw r cuts) (n:=v) (bF aa aa);rw[Z]at d;refine vg [0] rfl rfl (c v rfl _ (gs.drop (gs.length / 2)) [] _ Es d) (congrArg (λl=>[W.one (.ptr 0 26 0 0),oL 5 l,oI _]) (agO gs _)) (Kt (a:=IL _) rfl) ?_;rintro _ _ ⟨rfl,(⟨x,rfl⟩|⟨o,q2,x,rfl⟩|⟨P,o,q2,x,rfl⟩)⟩)|(have d:=G.PN (chk:=Aw r cuts) (n:=v) (bF aa aa);rw[Z]at d;refine vg [0,1] rfl rfl (c v rfl _ (gs.drop (gs.length / 2)) (F::q1) _ Es d) (congrArg (λl=>[W.one (.ptr 0 26 0 0),oL 5 l,oI _]) (agO gs _)) (sU (a:=IL _) rfl av rfl rfl (aL.aM rfl _)) ?_;rintro _ _ ⟨rfl,(⟨x,rfl⟩|⟨o,q2,x,rfl⟩|⟨P,o,q2,x,rfl⟩)⟩)|(have d:=G.PN (chk:=Aw r cuts) (n:=v) (bF aa aa);rw[Z]at d;refine vg [0,197] rfl rfl (c v rfl _ (gs.drop (gs.length / 2)) (F::q1) _ Es d) (congrArg (λl=>[W.one (.ptr 0 26 0 0),oL 5 l,oI _]) (agO gs _)) (sU (a:=IL _) rfl av rfl rfl (aL.aM rfl _)) ?_;rintro _ _ ⟨rfl,(⟨x,rfl⟩|⟨o,q2,x,rfl⟩|⟨P,o,q2,x,rfl⟩)⟩)|(have d:=G.PN (chk:=Aw r cuts) (n:=v) (bF aa aa);rw[Z]at d;refine vg [0,198] rfl rfl (c v rfl _ (gs.drop (gs.length / 2)) (F::q1) _ Es d) (congrArg (λl=>[W.one (.ptr 0 26 0 0),oL 5 l,oI _]) (agO gs _)) (sU (a:=IL _) rfl av rfl rfl (aL.aM rfl _)) ?_;rintro _ _ ⟨rfl,(⟨x,rfl⟩|⟨o,q2,x,rfl⟩|⟨P,o,q2,x,rfl⟩)⟩)|exact absurd rfl P|exact(axG Z).elim|exact(axG x).elim|(have N:gs.length=0:=aa;rcases zs with _|⟨j,e⟩;exact⟨[],[0],rfl,⟨av,av,sm1⟩,Wm (by rw[QG N]) (by rw[QG N];rfl) (Kt rfl)⟩;exact⟨[],[0,1],rfl,⟨av,av,sm2⟩,Da (by rw[QG N]) (by rw[QG N,aa9]) (sU rfl av rfl rfl rfl)⟩)|exact⟨[],[0],rfl,⟨av,av,sm1⟩,Wm K2 (by rw[QF K ai];rfl) (Kt rfl)⟩|exact⟨[],[0,1],rfl,⟨av,av,sm2⟩,Da K2 (by rw[QF K ai];exact aa9 _) (sU rfl av rfl rfl rfl)⟩|exact⟨[],[0,212],rfl,⟨av,av,sm1⟩,Da (z:=[tI 3,tI i,tI _]) (q:=[]) W2 Tt (sU rfl av rfl rfl rfl)⟩|exact⟨[],[0,1,212],rfl,⟨av,av,sm2⟩,Wl ak (z:=j) (q:=e++[[tI 3,tI i,tI _]]) W2 Tt (VX iC av av rfl rfl rfl (aL.snoc (xs:=j::e) rfl [tI _,tI _,tI _]))⟩|exact⟨[],[0],rfl,⟨av,av,sm1⟩,Wm bw az (Kt rfl)⟩|exact⟨[],[0,229],rfl,⟨av,av,sm1⟩,Da bw az (sU rfl av rfl rfl (aL.aM rfl _))⟩|exact⟨[],[0,230],rfl,⟨av,av,sm1⟩,Da bw az (sU rfl av rfl rfl (aL.aM rfl _))⟩|exact⟨[],[0,197],rfl,⟨av,av,sm1⟩,Da bw az (sU rfl av rfl rfl (aL.aM rfl _))⟩|exact⟨[],[0,1],rfl,⟨av,av,sm2⟩,Da bw az (sU rfl av rfl rfl (aL.aM rfl _))⟩|exact⟨[],[0,1,198],rfl,⟨av,av,sm2⟩,Wl ak bw az (VX rfl av av rfl rfl rfl (aL.aM rfl _))⟩|exact⟨[],[0,1,230],rfl,⟨av,av,sm2⟩,Wl ak bw az (VX rfl av av rfl rfl rfl (aL.aM rfl _))⟩|(rcases acc with _|⟨M,s⟩)|(rcases zs with _|⟨j,e⟩))
end Go.aW.Cd
namespace Go.aW.Cd
open Go Go.Proofs
variable[kw]
def opE(r:Rn):Int:=pk 49 [Ej r] (λn=>[oI n]) (λn=>n=0->N1 r.bk r.ms r.ps r.us r.ss r.os/\lu r.os)
def qb(r:Rn)(J:jk r): ∃ts,Fn Tryz.prog 49 [Ej r] [] (aR ts) []/\(aR ts).cR=true/\(ts=[oI (opE r)]/\(opE r=0->N1 r.bk r.ms r.ps r.us r.ss r.os/\lu r.os)):=by
 obtain⟨ts,O,Y,n,rfl,B⟩:=lF r.sn r.bk r.ms r.ps r.us r.ss r.os J.hS;exact lp (enc:=λn=>[oI n]) (Q:=λn=>n=0->N1 r.bk r.ms r.ps r.us r.ss r.os/\lu r.os) ⟨n,O,Y,B⟩
abbrev Rn.pl(r:Rn):Lz×Int:=plV r.sn r.bk r.ms r.ps r.us r.ss r.os r.ln r.wd r.rx r.ry r.sizes r.places
abbrev Rn.aQ(r:Rn):Lz:=r.pl.1
def Tk(r:Rn):Int:=pk 39 [CE r,oL 1 r.aQ,oL 7 r.aH,oL 1 r.lots] (λn=>[oI n]) (SpG r.ln r.wd r.aQ r.aH r.lots r.plies)
def lS(r:Rn)(J:jk r)(hp:yn r.aQ): ∃ts,Fn Tryz.prog 39 [CE r,oL 1 r.aQ,oL 7 r.aH,oL 1 r.lots] [] (aR ts) []/\(aR ts).cR=true/\(ts=[oI (Tk r)]/\SpG r.ln r.wd r.aQ r.aH r.lots r.plies (Tk r)):=by
 obtain⟨ts,O,Y,n,rfl,B⟩:=uE r.ln r.wd r.rx r.ry r.sizes r.places r.plies r.aQ r.aH r.lots hp J.hR J.C5 J.hlo J.hy J.iI J.hB;exact lp (enc:=λn=>[oI n]) (Q:=SpG r.ln r.wd r.aQ r.aH r.lots r.plies) ⟨n,O,Y,B⟩
def buE(r:Rn):Int:=pk 50 [CE r,oL 6 r.bs] (λn=>[oI n]) (λn=>n=0->kA r.sizes r.plies r.bs r.bs.length)
def uZ(r:Rn)(J:jk r): ∃ts,Fn Tryz.prog 50 [CE r,oL 6 r.bs] [] (aR ts) []/\(aR ts).cR=true/\(ts=[oI (buE r)]/\(buE r=0->kA r.sizes r.plies r.bs r.bs.length)):=by
 obtain⟨ts,O,Y,n,rfl,B⟩:=xX r.ln r.wd r.rx r.ry r.sizes r.places r.plies r.bs J.hz J.iF J.lay.hy (by have:=J.iI;simp only[maxLen];omega) J.hb oa;exact lp (enc:=λn=>[oI n]) (Q:=λn=>n=0->kA r.sizes r.plies r.bs r.bs.length) ⟨n,O,Y,B⟩
def jM(r:Rn)(J:jk r): ∃ts,Fn Tryz.prog 38 [Ej r,YP r.ln r.wd r.rx r.ry r.sizes r.places] [] (aR ts) []/\(aR ts).cR=true/\(ts=[oL 1 r.pl.1,oI r.pl.2]/\(r.pl.2=0->LF r.sizes r.places r.bk.length r.pl.1)):=
 Eo r.sn r.bk r.ms r.ps r.us r.ss r.os J.hS r.ln r.wd r.rx r.ry r.sizes r.places J.hz (by have:=J.iF;simp only[maxLen];omega) J.hp J.eX
structure kx(r:Rn):Prop where
 op:opE r=0
 pl:r.pl.2=0
 sp:Tk r=0
 bu:buE r=0
 jg:r.jE=0
 tf:XU r.r r.l
 gs:r.gs.length<=240
 ps:r.eB.length<=300
def GFl(r:Rn)(ts:Lw):Prop:= ∃n e:Int,ts=[oI n,oI e]/\(e=0↔kx r)/\(opE r=0->r.pl.2=0->Tk r≠0->n=3/\e=Tk r)
section
variable{r:Rn}{n e:Int}
def vW(H:e≠0)(h:kx r->False)(Y:opE r=0->r.pl.2=0->Tk r≠0->n=3/\e=Tk r):GFl r [oI n,oI e]:=⟨n,e,rfl,iff_of_false H h,Y⟩
end
def EL(r:Rn)(J:jk r):Tg 22 [rE r] (GFl r):=by
 have P:=J.vU;have c:=J.VS;refine aS ?_;refine aC Tryz.func22 ?_
 repeat' ((conv=>whnf);first|refine bZz (λh=>?_) (λh=>?_)|(refine aD rfl (qb r J) ?_;rintro _ ⟨rfl,_⟩)|(refine aD rfl (jM r J) ?_;rintro _ ⟨rfl,a⟩)|(refine aD rfl (lS r J (a aa).1) ?_;rintro _ ⟨rfl,_⟩)|(refine aD rfl (uZ r J) ?_;rintro _ ⟨rfl,_⟩)|(refine aD rfl (kj r.sn r.bk r.ms r.ps r.us r.ss r.os J.hS r.bs J.hb oa r.ws J.hw (by have:=J.ni;simp only[maxLen];omega) r.xs J.hx) ?_;rintro _ ⟨rfl,_⟩)|(refine aD rfl (vu r.r r.l) ?_;rintro _ ⟨l,rfl,b⟩)|exact eL rfl (cv rfl) (cv rfl) (vW ai (λh=>absurd h.op ai) (λh=>absurd h ai))|exact eL rfl (cv rfl) (cv rfl) (vW ai (λh=>absurd h.pl ai) (λ_ h=>absurd h ai))|exact eL rfl (cv rfl) (cv rfl) (vW ai (λh=>absurd h.sp ai) (λ_ _ _=>⟨rfl,rfl⟩))|exact eL rfl (cv rfl) (cv rfl) (vW ai (λh=>absurd h.bu ai) (λ_ _ h=>absurd ai h))|exact eL rfl (cv rfl) (cv rfl) (vW ai (λh=>absurd h.jg ai) (λ_ _ h=>absurd ai h))|exact eL rfl (cv rfl) (cv rfl) (vW ai (λh=>absurd (b.2 h.tf) ai) (λ_ _ h=>absurd ai h))|exact eL rfl (cv rfl) (cv rfl) (vW av (λh=>by have O:=h.gs;have Y:=h.ps;omega) (λ_ _ h=>absurd ai h))|exact eL rfl (cv rfl) (cv rfl) ⟨_,_,rfl,iff_of_true rfl ⟨ai,ai,ai,ai,ai,b.1 ai,aa,aa⟩,λ_ _ h=>absurd ai h⟩)
end Go.aW.Cd
namespace Go.aW
open Go
variable{P:Program}{M A:agt}{ρ:Env}{F:agt}{st:St}{a:Act}{w:World}
def LQ{cs:Lc}{z:Array Value}(J:DL w A ρ cs z)(n:Nat): ∃vs:List Value,(Builtin.zeroCells z n).toList=vs/\vs.length=n * cs.length/\(∀v∈vs,v.oneCell'=true)/\
 ∀ (i:Nat) (L:Lc) (j:Nat) (k:C),(List.replicate n cs)[i]? =some L->L[j]? =some k-> ∃y,vs[i * cs.length+j]? =some y/\RC w A ρ k y/\cz y=true:=by
 obtain⟨H,o,N⟩:=pL J n
 have a:Builtin.zeroCells z n=(Array.range (n * cs.length)).map λk=>z[k % z.size]! :=by
  unfold Builtin.zeroCells;rw[J.1]
 refine⟨_,rfl,?_,λv l=>?_,λi L j k I Q=>?_⟩
 . rw[a,abZ,o,adk]
 . rw[a]at l;simp only[adV,aad,Array.toList_range,aap]at l;obtain⟨q,d,rfl⟩:=l
   have b:0 < cs.length:=by
    rcases aev cs.length with h|h
    . rw[h]at d;omega
    . exact h
   have r:q % z.size < z.size:=ae0 _ (by rw[<-J.1];exact b);rw[getElem!_pos z _ r];obtain⟨c,D⟩: ∃c,cs[q % z.size]? =some c:=⟨_,YI (by rw[J.1];exact r)⟩;exact(J.2 (q % z.size) c _ D (by simp[r])).2
 . obtain⟨y,G,O,Y⟩:=N i L j k I Q;exact⟨y,by rw[a,aaN];exact G,O,Y⟩
variable{id sz:Nat}{rows:Lq}
def La{t ty e:TypeId}{i len:Nat}{z:Lc}{x:Value}(h:Rel M A ρ F st a w)(L:P.underlying t=some (.slice e))(N:j9 P e=some z)(iF:z.length=sz)(R:find st.heap id=some (.row sz rows))(s:0 < len)(hle:i+len<=rows.length)(S:RC w A ρ (.own id sz i len) x):
 ∃w',(Builtin.clear_ #[t] ty #[x]).run P w= .ok (.tuple #[]) w'/\Rel M A ρ F {st with heap:=jB st.heap id (.row sz (bt rows i (List.replicate len z)))} a w'/\dA M w w':=by
 obtain⟨inf,zv,z1,z2,z3,z4,z5⟩:=gJ N w A ρ;obtain⟨o,hvs,hvl,Eu,hvr⟩:=LQ z5 len;subst iF;obtain⟨HL,G⟩:=h.heap id _ R;rcases G with⟨v,c,ce,q1,q2,q3,q4,q5,q6⟩|⟨Y,B⟩
 . rcases S with⟨b,cap,q,e',K,g,H,k4,k5⟩|⟨K,_,H,_⟩
   . rw[K]at q1;simp only[ii,Loc.gD.injEq]at q1;subst q1;subst g;have YY:(List.replicate len z).length=len:=ak
     have hfit:i * z.length+o.length<=c.size:=by
      rw[hvl];have O:(i+len) * z.length<=rows.length * z.length:=YH _ hle;rw[aaw]at O;omega
     have hst:=run_storeCells_at P b (i * z.length) ce o 0 c w q4 (by simpa using hfit) Eu;simp only[ace]at hst;have dW:c.toList.length=c.size:=ak
     obtain⟨r,U⟩:=h.write (c':=(bt c.toList (i * z.length) o).toArray) (xs':=bt rows i (List.replicate len z)) R K q4
      Kz
      (λn hel=>by
        simp only[bt,yl]at hel;rcases hel with(hel|hel)|hel
        . exact HL n (aah hel)
        . rw[ack hel]
        . exact HL n (abc hel))
      yy
      (λi' n j k I Q=>by
        simp only[aci];rw[eY aa];rw[eY aa]at I;split at I
        . rename_i hin;have hel:n.length=z.length:=by rw[ack (oo I)]
          have hj2:j < z.length:=by rw[<-hel];exact(jl.1 Q).1
          have O:(i' - i) * z.length+i * z.length=i' * z.length:=by rw[<-aaw];congr 1;omega
          have Y:(i' - i+1) * z.length<=len * z.length:=YH _ aa;rw[aaw]at Y;rw[if_pos (by rw[hvl];omega),show i' * z.length+j - i * z.length=(i' - i) * z.length+j by omega];exact hvr (i' - i) n j k I Q
        . rename_i hin;have hel:n.length=z.length:=HL n (oo I);have hj2:j < z.length:=by rw[<-hel];exact(jl.1 Q).1
          have D:¬ (i * z.length<=i' * z.length+j/\i' * z.length+j < i * z.length+o.length):=by
           intro d;rw[hvl]at d;rcases aa8 i' i with l|hge
           . have:(i'+1) * z.length<=i * z.length:=YH _ l;rw[aaw]at this;omega
           . have:(i+len) * z.length<=i' * z.length:=YH _ aa;rw[aaw]at this;omega
          rw[if_neg D];obtain⟨y,Z,J,O⟩:=q6 i' n j k I Q;exact⟨y,PO,J,O⟩)
     refine⟨_,?_,r,U⟩;obtain⟨m,rfl⟩: ∃m,len=m+1:=⟨len - 1,aa⟩;have hzr:(zeroValue e).run P w= .ok zv w:=by simp[zeroValue,typeInfo,z1,z2]
     simp[Builtin.clear_,run_underlying L,hzr,hvs,hst,bt]
   . rw[K]at q1;simp at q1
 . rw[B]at hle;simp at hle;omega
def Z1{n ctr x:Nat}{t ty e:TypeId}{i len:Nat}{tm:TS}{hp:HS}{z:Lc}{K:V->HS->Prop}(hx:find tm x=some (.w (.one (.own id sz i len))))(R:find hp id=some (.row sz rows))(L:P.underlying t=some (.slice e))(N:j9 P e=some z)(G:z.length=sz)(s:0 < len)(Q:i+len<=rows.length)
 (Z:K (.fB []) (jB hp id (.row sz (bt rows i (List.replicate len z))))): ∃v hp',jA P n (.call ⟨.builtin .clear, #[.tmp x], #[t]⟩) ty tm hp ctr v hp'/\K v hp':=by
 refine⟨_,_,?_,Z⟩;rintro⟨g,y,F,I,d,l⟩ rfl rfl;intro M A ρ a w J;have h:=J.get (.tmp x);have H:St.get ⟨n,tm,hp⟩ (.tmp x)= .w (.one (.own id sz i len)):=PL
 rw[H]at h;obtain⟨j,O,Y,B⟩:=La (ty:=F) J L N G R s Q h.1;refine⟨.tuple #[],j,A,ρ,.inl ?_,Y.sub (λid D=>by simp only[bJ]at D⊢;omega),?_,B,dD.refl _,bY.refl _ _⟩
 . show(execOp a.eval ⟨g,Op.call ⟨.builtin .clear, #[.tmp x], #[t]⟩,F,I,d,l⟩).run P w=_;simp[execOp,resolve,invoke,builtin,O]
 . exact⟨#[],rfl,rfl,λk u x L=>by simp at L⟩
end Go.aW
namespace Go.aW.Cd
open Go Go.Proofs
variable{e d:Lt}
def aD6{xs:Lz}(h:xs[0]? =some e):yC xs 1=xs.take 1:=by
 have N:xs[0]? =some e:=h;simp only[yC,N];rw[if_neg ak,abw,N];rfl
def Xm{xs:Lz}{n:Nat}(h:xs[n]? =some e)(S:xs[n - 1]? =some d)(Z:¬kq d e):yC xs (n+1)=yC xs n++[e]:=by
 simp only[yC,h,S,YJ];rw[if_neg (λD=>Z D.2)]
def Xn{xs:Lz}{n:Nat}(K:n≠0)(h:xs[n]? =some e)(S:xs[n - 1]? =some d)(Z:kq d e):yC xs (n+1)=yC xs n:=by
 simp only[yC,h,S,YJ];rw[if_pos ⟨K,Z⟩]
def acP{a b c a2 b2 c2:Int}:kq [tI a2,tI b2,tI c2] [tI a,tI b,tI c]↔(a==a2&& (b==b2&& (c==c2&&true)))=true:=by
 simp only[kq,nI,yq,ac9,afn,LD,beq_iff_eq];constructor
 . rintro⟨O,Y,B⟩;exact⟨O.symm,Y.symm,B.symm⟩
 . rintro⟨O,Y,B⟩;exact⟨O.symm,Y.symm,B.symm⟩
def ahY(xs:Lz)(m:Nat)(vs:List V)(w:List (Lz)):Prop:= ∃k:Nat,1<=k/\k<=xs.length/\m=xs.length - k/\vs=[iV .i64 (k:Int)]/\w=[xs]/\yC xs k=xs.take k
def ahY.next{xs:Lz}{k:Nat}{a b c a2 b2 c2:Int}(z:1<=k)(Z:(k:Int) < (xs.length:Int))(hl:xs.length<=1000000)(hp:yC xs k=xs.take k)(S:xs[0+((k:Int)).toNat]? =some [tI a,tI b,tI c])(O:xs[0+(IntKind.i64.wrap ((k:Int) - 1)).toNat]? =some [tI a2,tI b2,tI c2])(P:¬ (a==a2&& (b==b2&& (c==c2&&true)))=true):
 ahY xs (xs.length - (k+1)) [iV .i64 (IntKind.i64.wrap ((k:Int)+1))] [xs]:=by
 rw[bF aa aa,show 0+((k:Int) - 1).toNat=k - 1 by omega]at O;have x:xs[k]? =some [tI a,tI b,tI c]:=aA
 refine⟨k+1,aa,aa,rfl,by rw[bF aa aa];rfl,rfl,?_⟩;rw[Xm x O (λh=>P (acP.1 h)),hp,abw,x];rfl
def EO(xs:Lz)(k0:Nat)(m:Nat)(vs:List V)(w:List (Lz)):Prop:= ∃ (k q:Nat) (zs:Lz),1<=q/\k0+q<=xs.length/\1<=k/\k+1<=k0+q/\m=xs.length - k0 - q/\vs=[iV .i64 (k:Int),iV .i64 (q:Int)]/\w=[zs]/\zs.length=xs.length/\I3 zs/\zs.take k=yC xs (k0+q)/\ ∀j,k0+q<=j+1->zs[j]? =xs[j]?
def EO.zero{xs:Lz}{k:Nat}{a b c a2 b2 c2:Int}(hx:I3 xs)(z:1<=k)(Z:(k:Int) < (xs.length:Int))(hl:xs.length<=1000000)(hp:yC xs k=xs.take k)(S:xs[0+((k:Int)).toNat]? =some [tI a,tI b,tI c])(O:xs[0+(IntKind.i64.wrap ((k:Int) - 1)).toNat]? =some [tI a2,tI b2,tI c2])(H:(a==a2&& (b==b2&& (c==c2&&true)))=true):
 EO xs k (xs.length - k - 1) [iV .i64 (k:Int),iV .i64 1] [xs]:=by
 rw[bF aa aa,show 0+((k:Int) - 1).toNat=k - 1 by omega]at O;have x:xs[k]? =some [tI a,tI b,tI c]:=aA
 exact⟨k,1,xs,aa,aa,aa,aa,rfl,rfl,rfl,rfl,hx,by rw[Xn aa x O (acP.2 H),hp],λj _=>rfl⟩
section
variable{xs zs:Lz}{k0 k q:Nat}{a b c a2 b2 c2:Int}(hq:1<=q)(jD:1<=k)(hkq:k+1<=k0+q)(hlt:(q:Int) < ((xs.length - ((k0:Int)).toNat:Nat):Int))(hl:xs.length<=1000000)(iF:zs.length=xs.length)(FF:I3 zs)(hz:zs.take k=yC xs (k0+q))(hj:∀j,k0+q<=j+1->zs[j]? =xs[j]?)
 (hs:zs[0+((k0:Int)).toNat+((q:Int)).toNat]? =some [tI a,tI b,tI c]) (dN:zs[0+((k0:Int)).toNat+(IntKind.i64.wrap ((q:Int) - 1)).toNat]? =some [tI a2,tI b2,tI c2])
include hq jD hkq hlt hl iF FF hz hj hs dN
def EO.eq(H:(a==a2&& (b==b2&& (c==c2&&true)))=true):EO xs k0 (xs.length - k0 - (q+1)) [iV .i64 (k:Int),iV .i64 (IntKind.i64.wrap ((q:Int)+1))] [zs]:=by
 rw[bF aa aa,show 0+((k0:Int)).toNat+((q:Int) - 1).toNat=k0+q - 1 by omega,hj _ aa]at dN;rw[show 0+((k0:Int)).toNat+((q:Int)).toNat=k0+q by omega,hj _ aa]at hs;refine⟨k,q+1,zs,aa,aa,jD,aa,rfl,by rw[bF aa aa];rfl,rfl,iF,FF,?_,λj h=>hj j aa⟩;rw[hz, <-ab3,Xn aa hs dN (acP.2 H)]
def EO.ne(H:¬ (a==a2&& (b==b2&& (c==c2&&true)))=true):EO xs k0 (xs.length - k0 - (q+1)) [iV .i64 (IntKind.i64.wrap ((k:Int)+1)),iV .i64 (IntKind.i64.wrap ((q:Int)+1))] [zs.set (0+((k:Int)).toNat) [tI a,tI b,tI c]]:=by
 rw[bF aa aa,show 0+((k0:Int)).toNat+((q:Int) - 1).toNat=k0+q - 1 by omega,hj _ aa]at dN;rw[show 0+((k0:Int)).toNat+((q:Int)).toNat=k0+q by omega,hj _ aa]at hs;rw[show 0+((k:Int)).toNat=k by omega];refine⟨k+1,q+1,_,aa,aa,aa,aa,rfl,by rw[bF aa aa,bF aa aa];rfl,rfl,by simp[iF],λe H=>?_,?_,λj h=>?_⟩
 . rcases aao H with H|rfl
   . exact FF e H
   . exact⟨_,_,_,rfl⟩
 . rw[<-ab3,Xm hs dN (λh=>H (acP.1 h)), <-hz,abw,List.take_set_of_le (ww _),aaj aa];rfl
 . rw[aam aa];exact hj j aa
end
def aLN(xs:Lz)(ts:Lw)(N:HS):Prop:= ∃ (m:Nat) (Y:Lz),ts=[.one (.own 0 3 0 m)]/\N=[(0,.row 3 (tr Y))]/\m<=Y.length/\Y.take m=yC xs xs.length
def ZL{rows:Lq}{xs:Lz}{i:Nat}{e:Lt}{K:Lc->Prop}(h:aL rows xs)(S:xs[i]? =some e)(Z:K (e.map .t)):mP rows i K:=
 cu (Pd:=λ_=>True) h (λ_ _=>trivial) (jl.1 S).1 λJ _ N=>by
  rw[S]at N;cases N;exact Z
def aLa{b:Bool}(h:(!b)=true):¬b=true:=bc
def aLb{b:Bool}(h:b=false):¬b=true:=by simp[h]
def aLc{b:Bool}(h:(!b)=false):b=true:=bc
def axD(n:Nat):List.replicate n [C.t (tI 0),.t (tI 0),.t (tI 0)]=tr (List.replicate n [tI 0,tI 0,tI 0]):=iC
def aGZ:Tryz.prog.underlying 48=some (.slice 53):=ag
def aGQ:j9 Tryz.prog 53=some [.t (tI 0),.t (tI 0),.t (tI 0)]:=ag
def Xk{xs:Lz}(h:((xs.length:Nat):Int) < 2):xs.take xs.length=yC xs xs.length:=by
 match xs,h with
 | [],_=>rfl| [x],_=>rfl
 |x::y::r,h=>simp only[aaa]at h;omega
def asQ{xs zs F:Lz}{k n:Nat}(Z:k<=zs.length)(h:zs.take k=yC xs n)(K:n=xs.length):(bt zs (0+((k:Int)).toNat) F).take (((k:Int)).toNat - 0)=yC xs xs.length:=by
 rw[<-K, <-h,show 0+((k:Int)).toNat=k by omega,show((k:Int)).toNat - 0=k by omega];unfold bt;rw[aaQ,ach gZ,List.take_take];simp
def cZ(xs:Lz)(hx:I3 xs)(hl:xs.length<=1000000): ∃ts N,Fn Tryz.prog 33 [.one (.own 0 3 0 xs.length)] [(0,.row 3 (tr xs))] (aR ts) N/\aLN xs ts N:=by
 refine ij Tryz.func33 ?_
 repeat' ((conv=>whnf);first|refine bZz (λh=>?_) (λh=>?_)|refine oZ aa aa (.inl aa) ?_|refine And.intro ⟨ah,ah⟩ ?_|refine And.intro ag ?_|refine And.intro aa ?_|(refine cu (xs:=xs) (i:=0+(k0:Int).toNat) rfl hx aa ?_;rintro _ ⟨a,b,c,rfl⟩ S)|(refine cu (xs:=xs) rfl hx ah ?_;rintro _ ⟨a2,b2,c2,rfl⟩ O)|refine ZL (xs:=zs) rfl D ?_|(refine cu (xs:=zs) (i:=0+(k:Int).toNat) rfl FF aa ?_;rintro _ ⟨d,L,G,rfl⟩ _)|(refine cu (xs:=zs) (i:=0+(k0:Int).toNat+(q:Int).toNat) rfl FF aa ?_;rintro _ ⟨l,s,z,rfl⟩ D)|(refine cu (xs:=zs) rfl FF ah ?_;rintro _ ⟨v,n,H,rfl⟩ y)|(refine Z1 rfl rfl aGZ aGQ rfl aa (by simp[tr];omega) ?_;rw[axD,yN])|exact⟨_,_,_,rfl,rfl,j0 rfl (xs:=xs) (ys:=xs) rfl,_,_,rfl,rfl,ww _,Xk aa⟩|exact⟨_,_,_,rfl,rfl,j0 rfl (xs:=xs) (ys:=xs) rfl,_,_,rfl,rfl,ww _,by rw[show xs.length=k0 by omega,F]⟩|exact⟨_,_,_,rfl,rfl,j0 rfl (xs:=xs) (ys:=bt zs _ _) rfl,_,_,rfl,rfl,by simp[bt];omega,asQ aa hz aa⟩|(apply bp [0,3,4,5] [] [3,5] [(0,3)] (EO xs k0) (xs.length - k0 - 1) [iV .i64 (k0:Int),iV .i64 1];(iterate 3 exact ae);exact .cons (aL.aM (xs:=xs) rfl _) .nil;exact EO.zero hx e aa hl F S O ai;rintro _ _ _ ⟨k,q,zs,hq,g,jD,hkq,rfl,rfl,rfl,iF,FF,hz,hj⟩)|(refine aI [0,3,4,5] [] ?_;(conv=>whnf);first|exact⟨rfl,_,[_,_],_,.cons (aL.aM (xs:=zs) rfl _) .nil,EO.eq hq jD hkq aa hl iF FF hz hj D y (aLc ai),rfl,rfl,aa⟩|exact⟨rfl,_,[_,_],_,.cons (aL.aM (aL.set (xs:=zs) rfl _ [tI _,tI _,tI _]) _) .nil,EO.ne hq jD hkq aa hl iF FF hz hj D y (aLa ai),rfl,rfl,aa⟩)|(apply bp [0,3] [] [3] [(0,3)] (ahY xs) (xs.length - 1) [iV .i64 1];(iterate 3 exact ae);exact .cons (aL.aM (xs:=xs) rfl _) .nil;exact⟨1,aa,aa,rfl,rfl,rfl,aD6 (YI aa)⟩;rintro _ _ _ ⟨k0,e,j,rfl,rfl,rfl,F⟩)|(refine aI [0,3] [] ?_;(conv=>whnf);exact⟨rfl,_,[_],_,.cons (aL.aM (xs:=xs) rfl _) .nil,ahY.next e aa hl F S O (aLb ai),rfl,rfl,aa⟩))
end Go.aW.Cd
namespace Go.aW.Cd
open Go Go.Proofs Go.Lib
def orV(a b c:Int):Int:=if a≠0 then a else if b≠0 then b else c
set_option maxHeartbeats 2000000 in
def agU(a b c:Int)(blk:Nat)(W:World)(z:W.cell? ⟨blk,0,none⟩=some (.int .i64 a))(O:W.cell? ⟨blk,1,none⟩=some (.int .i64 b))(Y:W.cell? ⟨blk,2,none⟩=some (.int .i64 c)):
 Calls Tryz.prog 31 #[.slice (some ⟨blk,0,none⟩) 3 3] W λe w'=>e= .returned (.int .i64 (orV a b c))/\w'=W:=by
 go_enter Tryz.func31,Tryz.ntmps31
 go_wp2
 refine wp_loop_rounds 4 ?_;rw[rounds_succ]
 go_wp2
 . go_ret
   refine⟨?_,rfl⟩;simp_all[orV]
 rw[rounds_succ]
 go_wp2
 . go_ret
   refine⟨?_,rfl⟩;simp_all[orV]
 rw[rounds_succ]
 go_wp2
 . go_ret
   refine⟨?_,rfl⟩;simp_all[orV]
 rw[rounds_succ]
 go_wp2
 go_ret
 refine⟨?_,rfl⟩;simp_all[orV]
def agT(a b c:Int)(w:World)(blk:Nat)(G:blk=w.heap.size):Calls Tryz.prog 31 #[.slice (some ⟨blk,0,none⟩) 3 3] (w.alloc (.cells #[.int .i64 a,.int .i64 b,.int .i64 c] 3)).drew λe w'=>e= .returned (.int .i64 (orV a b c))/\w'=(w.alloc (.cells #[.int .i64 a,.int .i64 b,.int .i64 c] 3)).drew:=by
 subst G;refine agU a b c _ _ ?_ ?_ ?_ <;>simp
end Go.aW.Cd
namespace Go.aW.Cd
open Go Go.Proofs
def OU:∀ {l:List Zn},rU l=true->(∀x,x∈l->x.1 < x.2)->l.Pairwise λa b=>a.2<=b.1
 | [],_,_=>List.Pairwise.nil
 | [x],_,_=>ak
 |x::y::r,h,F=>by
  simp only[rU,LD,decide_eq_true_eq]at h;have c:=OU (l:=y::r) h.2 λz A=>F z (by simp only[aak]at A⊢;exact .inr A);refine acw.2 ⟨λz A=>?_,c⟩;rcases aak.1 A with rfl|A
  . exact h.1
  . have O:=(acw.1 c).1 z A;have Y:=F y ak;have B:=h.1;omega
def acB{l:List Zn}(h:rU l=true)(hp:∀x,x∈l->x.1 < x.2):l.Nodup:=by
 refine(OU h hp).imp_of_mem λ{a b} w _ s e=>?_;subst e;have:=hp a w;omega
section
open Go.Sort
variable{α:Type}
def abP[Inhabited α]{l:List α}{d:Array α}(h:PermIn 0 l.toArray.size l.toArray d):d.toList.Perm l:=by
 obtain⟨O,_,B⟩:=h;rw[<-O,Array.extract_size,O,Array.extract_size]at B;simpa using B
def Q7[Inhabited α]{c:α->α->Bool}{d:Array α}(h:SortedIn c 0 d.size d):d.toList.Pairwise λa b=>c b a=false:=by
 rw[adn];intro i j I Q A;have:=h i j (aa7 _) A af5;simp only[abZ]at I Q;rw[getElem!_pos d j Q,getElem!_pos d i I]at this;simpa using this
def Ch[Inhabited α]{c:α->α->Int}(h:SWO (ltOf c))(l:List α):(sx c l).Perm l:=abP (vF h l.toArray)
def Q9[Inhabited α]{c:α->α->Int}(h:SWO (ltOf c))(l:List α):(sx c l).Pairwise λa b=>ltOf c b a=false:=by
 have O:=(vF h l.toArray).1;have Y:=(pdq_sorts (ltOf c) h l.toArray 0 l.toArray.size (Lib.bitLen l.toArray.size) true true (aa7 _) (ww _) (Or.inl rfl)).2;refine Q7 ?_;show SortedIn (ltOf c) 0 (sy c l.toArray).size (sy c l.toArray);rw[O];exact Y
def Md(l:List Zn):(pR l).Perm l:=Ch aaE l
end
def Bw(r:Int)(a b:Lz):EY r (a++b)=EY r a++EY r b:=by simp[EY]
def L6{n:Nat}{qs:Lz}{p:Lt}{a b c:Lz}(hq:qs=a++[p]++b++[p]++c)(z:0<=nI 0 p)(K:nI 0 p < (n:Int))(hp:∀q,q∈qs->nI 1 q < nI 2 q):uy n qs=false:=by
 cases hu:uy n qs with
 |false=>rfl
 |true=>
  exfalso;unfold uy at hu;rw[yt]at hu;have O:=hu (nI 0 p).toNat (by simp only[aap];omega);rw[show(((nI 0 p).toNat:Nat):Int)=nI 0 p by omega]at O;have d:=Md (EY (nI 0 p) qs)
  have Y:=acB O λx N=>by
   have N:=d.mem_iff.1 N;simp only[EY,aau]at N;obtain⟨e,H,N⟩:=N;split at N
   . simp only[ii]at N;subst N;exact hp e H
   . simp at N
  have B:=d.nodup_iff.1 Y;have l:EY (nI 0 p) [p]=[(nI 1 p,nI 2 p)]:=by simp[EY]
  rw[hq,Bw,Bw,Bw,Bw,l]at B;simp[adM]at B
variable[kw]
def SpL.aA8{ln r:Int}{R v lots plies:Lz}(h:SpL ln r R v lots plies){k:Nat}{e:Lt}(Z:plies[k]? =some e)(K:plies.length < 40):SpC ln r R v lots (plies++[e]):=by
 have H:=oo Z
 have n:∀x,x∈plies++[e]->PyL ln r R v lots x:=λx N=>by
  rcases yl.1 N with N|N
  . exact h.all x N
  . simp only[vv]at N;subst N;exact h.all x H
 refine⟨h.cl,by simp;omega,n,?_⟩;have F:=h.all e H;have P:=F.ne
 obtain⟨p,g,A⟩: ∃p g,nL 1 e=p::g:=by
  cases N:nL 1 e with
  |nil=>rw[N]at P;simp at P
  |cons p g=>exact⟨p,g,rfl⟩
 have y:=Mx F p (by rw[A];simp);obtain⟨l,J⟩:=jl.1 Z
 have j:plies=plies.take k++[e]++plies.drop (k+1):=by
  rw[<-J,aaQ];simp
 refine L6 (p:=p) (a:=partsOf (plies.take k)) (b:=g++partsOf (plies.drop (k+1))) (c:=g) ?_ y.1 y.2 λq d=>?_
 . conv=>lhs;rw[j]
   simp[partsOf,A]
 . simp only[partsOf,abg]at d;obtain⟨x,N,d⟩:=d;obtain⟨i,I,rfl⟩:=aa3 d;exact((n x N).all i _ afx).1.1.2.2.1
end Go.aW.Cd
namespace Go.aW.Cd
open Go Go.Proofs Go.Sort Go.Shelf Go.RowKit Go.Lib
abbrev Is3:=Int×Int×Int
abbrev coI(x:Is3):List Int:=[x.1,x.2.1,x.2.2]
abbrev rI(l:List Is3):Lz:=rG coI l
def cfI(x y:Is3):Int:=orV (Lib.compareInt x.1 y.1) (Lib.compareInt x.2.1 y.2.1) (Lib.compareInt x.2.2 y.2.2)
def acI(x y:Is3):ltOf cfI x y=decide (x.1 < y.1\/(x.1=y.1/\(x.2.1 < y.2.1\/(x.2.1=y.2.1/\x.2.2 < y.2.2)))):=by
 obtain⟨a,b,c⟩:=x;obtain⟨N,Q,K⟩:=y
 have h:∀p q:Int,(Lib.compareInt p q= -1/\p < q)\/(Lib.compareInt p q=0/\p=q)\/(Lib.compareInt p q=1/\q < p):=λp q=>by
  unfold Lib.compareInt;rcases Int.lt_trichotomy p q with h|h|h
  . left;simp[h]
  . right;left;simp[h]
  . right;right;have:¬p < q:=aa
    simp[this,h]
 unfold ltOf cfI orV;simp only;rcases h a N with⟨H,O⟩|⟨H,O⟩|⟨H,O⟩<;>rcases h b Q with⟨o,Y⟩|⟨o,Y⟩|⟨o,Y⟩<;>rcases h c K with⟨G,B⟩|⟨G,B⟩|⟨G,B⟩<;>simp[H,o,G]<;>omega
def aaF:SWO (ltOf cfI) where
 irrefl x:=by rw[acI];simp
 trans x y z h1 h2:=by rw[acI]at *;simp at *;omega
 ntrans x y z h1 h2:=by rw[acI]at *;simp only[decide_eq_false_iff_not]at *;omega
set_option maxHeartbeats 4000000 in
def Xy(x y:Is3)(W:World):Calls Tryz.prog 30 #[.agg #[.int .i64 x.1,.int .i64 x.2.1,.int .i64 x.2.2],.agg #[.int .i64 y.1,.int .i64 y.2.1,.int .i64 y.2.2]] W λe w'=>e= .returned (.int .i64 (cfI x y))/\ ∃q g,w'=grow (W.drewN q) g:=by
 have d:=λa b c=>AnyG.cmp_Compare_int Tryz.Xu a b c;change ∀a b c,Calls Tryz.prog 32 _ _ _ at d;unfold cfI
 go_enter Tryz.func30,Tryz.ntmps30
 go_wp2_with (fail)
 go_region_held3 (λw'=>(w'.cell? ⟨W.heap.size,0,none⟩=some (.int .i64 x.1)/\w'.cell? ⟨W.heap.size,1,none⟩=some (.int .i64 x.2.1)/\w'.cell? ⟨W.heap.size,2,none⟩=some (.int .i64 x.2.2))/\w'.cell? ⟨W.heap.size+1,0,none⟩=some (.int .i64 y.1)/\w'.cell? ⟨W.heap.size+1,1,none⟩=some (.int .i64 y.2.1)/\w'.cell? ⟨W.heap.size+1,2,none⟩=some (.int .i64 y.2.2)) (go_keep)
  (first|(go_at_call 32;refine(d _ _ _).mono ?_;rintro e w' ⟨rfl,rfl⟩)|(go_at_call 31;refine(agT _ _ _ _ _ ak).mono ?_;rintro e w' ⟨rfl,rfl⟩))
 clear d
 go_wp2
 go_ret
 exact⟨rfl,1,_,by rw[alloc_eq_grow,alloc_eq_grow,alloc_eq_grow,grow_grow,grow_grow];rfl⟩
def Q8:DH Tryz.prog coI 3 cfI 29 30:=by
 refine⟨λL M d w F G S=>?_,λp M w=>?_⟩
 . have e:∀j w,(callFunc 30 j).run Tryz.prog w= .ok (.enter 30 j) w:=enters_of Tryz.func30 ag rfl;exact AnyQ.slices_SortFunc_eq Tryz.Uo 3 Tryz.isAgg53 Tryz.sizeOf53 (we coI) (λ_=>rfl) (λx v z=>by simp[we]at z;rcases z with rfl|rfl|rfl<;>rfl) cfI aaF 30 #[] L 0 M d w e (λ_ _ _ _ x y=>Xy x y _) F G S
 . exact AnyF.slices_SortFunc_none {Tryz.Uo with} p M _ w
def tkI(e:Lt):Is3:=(nI 0 e,nI 1 e,nI 2 e)
def ajL{zs:Lz}(h:I3 zs):rI (zs.map tkI)=zs:=by
 simp only[rI,rG,acm]
 conv=>rhs;rw[<-List.map_id zs]
 apply abr;intro e H;obtain⟨a,b,c,rfl⟩:=h e H;rfl
def aIb(l:List Is3):I3 (rI l):=λe H=>by
 simp only[rI,rG,aad]at H;obtain⟨x,_,rfl⟩:=H;exact⟨_,_,_,rfl⟩
def GSi(zs:Lz)(ts:Lw)(N:HS):Prop:=ts=[]/\ ∃Y,N=[(0,.row 3 (tr Y))]/\Y.length=zs.length/\I3 Y/\SW Y/\ ∀e,e∈Y↔e∈zs
def tL(zs:Lz)(h:I3 zs)(n:Nat)(K:n=zs.length)(U:zs.length<=1000000): ∃ts N,Fn Tryz.prog 29 [.one (.own 0 3 0 n),fV 30] [(0,.row 3 (tr zs))] (aR ts) N/\GSi zs ts N:=by
 subst K;have R:=Ox Q8 aaF (λ_=>rfl) av (zs.map tkI) gZ;have F:=Ch aaF (zs.map tkI);have S:=Q9 aaF (zs.map tkI);rw[show rG coI (zs.map tkI)=zs from ajL h,abo]at R;refine⟨[],_,R,rfl,_,rfl,?_,aIb _,?_,λe=>?_⟩
 . simp only[rG,abo,F.length_eq]
 . show((sx cfI (zs.map tkI)).map _).Pairwise _;rw[List.pairwise_map];refine S.imp λ{a b} s=>?_;rw[acI,decide_eq_false_iff_not]at s;obtain⟨L,Z,y⟩:=a;obtain⟨I,Q,D⟩:=b;simp only at s
   by_cases H:L=I/\Z=Q/\y=D
   . obtain⟨rfl,rfl,rfl⟩:=H;exact .inl rfl
   . right;show L < I\/(L=I/\(Z < Q\/(Z=Q/\y < D)));omega
 . have r:e∈rG coI (sx cfI (zs.map tkI))↔e∈rG coI (zs.map tkI):=by
    simp only[rG,aad];constructor
    . rintro⟨x,O,Y⟩;exact⟨x,by simpa using F.mem_iff.1 O,Y⟩
    . rintro⟨x,O,Y⟩;exact⟨x,F.mem_iff.2 rW,Y⟩
   rw[r,show rG coI (zs.map tkI)=zs from ajL h]
end Go.aW.Cd
namespace Go.aW.Cd
open Go Go.Proofs
def ve(u v:Lz):Prop:=u.length=v.length/\ ∀i,nB 0 (j8 u i)=true->nB 0 (j8 v i)=true
def ve.refl(u:Lz):ve u u:=⟨rfl,λ_ h=>h⟩
def ve.trans{u v x:Lz}(h:ve u v)(k:ve v x):ve u x:=⟨h.1.trans k.1,λi I=>k.2 i (h.2 i I)⟩
def ve.set{u v:Lz}(h:ve u v)(a:Nat):ve (u.set a [tB true]) (v.set a [tB true]):=by
 refine⟨by simp[h.1],λi I=>?_⟩
 by_cases w:a=i.toNat
 . by_cases U:i.toNat < v.length
   . subst w;unfold j8;rw[aaj U];rfl
   . rw[adu aa];rw[adu (by rw[h.1];omega)]at I;exact h.2 i I
 . unfold j8 at I⊢;rw[aam w]at I⊢;exact h.2 i I
def ve.ext(u:Lz)(a:Nat):ve u (u.set a [tB true]):=by
 refine⟨ak,λi I=>?_⟩;rcases BP (xs:=u) (a:=a) (v:=[tB true]) (i:=i)with h|⟨_,h⟩
 . rw[h];exact I
 . rw[h];rfl
def E1{u v pcs:Lz}(h:ve u v):∀j,ve (uA u pcs j) (uA v pcs j)
 |0=>h
 |j+1=>by
  simp only[uA];split
  . exact E1 h j
  . exact(E1 h j).set _
def B3{u pcs:Lz}:∀j,ve u (uA u pcs j)
 |0=>ve.refl u
 |j+1=>by
  simp only[uA];split
  . exact B3 j
  . exact(B3 j).trans (ve.ext _ _)
def Bx(cuts gs:Lz)(k:Nat):ve (uG cuts gs k) (uG cuts gs (k+1)):=by
 simp only[uG];split
 . exact ve.refl _
 . exact B3 _
variable{places plies cuts gs P:Lz}{ck:Int}
def POq.le{g b s:Int}{u v f:Lz}{i:Int}(h:POq places plies cuts g b s v f i)(L:ve u v):POq places plies cuts g b s u f i:=
 ⟨h.r,by
   cases hx:nB 0 (j8 u i)with
   |false=>rfl
   |true=>rw[<-h.u,L.2 i hx],h.f,h.l,h.d,h.p,h.s,h.g⟩
def vf.le{places plies cuts:Lz}{g b s:Int}{u v pcs:Lz}(h:vf places plies cuts g b s v pcs)(L:ve u v):vf places plies cuts g b s u pcs:=
 ⟨λk e Z H=>(h.all k e Z H).le (E1 L k),h.full⟩
def ZB.le{places plies cuts P u v b c:Lz}{e:Lt}(h:ZB places plies cuts P v c e)(L:ve u v)(H:∀x,x∈b->x∈c):ZB places plies cuts P u b e:=
 ⟨h.pre,λo d=>h.dup o (H o d),h.fk,λt g s l f o R=>(h.fit t g s l f o R).le L⟩
abbrev o6(gs:Lz)(i:Nat):Lz:=gs.take i++gs.drop (i+1)
def JE{i k:Nat}(h:k < i):(o6 gs i)[k]? =gs[k]? :=by
 by_cases I:i<=gs.length
 . rw[aaf ua,ad5 h]
 . have e:o6 gs i=gs:=by simp only[o6,aac (show gs.length<=i by omega),aeh (show gs.length<=i+1 by omega),aa9]
   rw[e]
def UM{i k:Nat}(I:i < gs.length)(h:i<=k):(o6 gs i)[k]? =gs[k+1]? :=by
 rw[aai ua,acr];congr 1;simp only[aab];omega
def ajC{cuts gs:Lz}{i:Nat}(I:i < gs.length):∀k,(k<=i->ve (uG cuts (o6 gs i) k) (uG cuts gs k))/\(i<=k->ve (uG cuts (o6 gs i) k) (uG cuts gs (k+1)))
 |0=>⟨λ_=>ve.refl _,λ_=>Bx cuts gs 0⟩
 |k+1=>by
  obtain⟨A,j⟩:=ajC I k (cuts:=cuts);constructor
  . intro h;simp only[uG,JE (show k < i by omega)];split
    . exact A aa
    . exact E1 (A aa) _
  . intro h
    by_cases Z:i<=k
    . have e:∀ (S:Lz) n,uG cuts S (n+1)=match S[n]? with
       |none=>uG cuts S n|some e=>uA (uG cuts S n) (nL 4 e) (nL 4 e).length:=λS n=>rfl
      have key:∀u,ve (uG cuts (o6 gs i) k) u->ve (uG cuts (o6 gs i) (k+1)) (match gs[k+1]? with
       |none=>u
       |some e=>uA u (nL 4 e) (nL 4 e).length):=λu L=>by
       rw[e (o6 gs i) k,UM I Z];split
       . exact L
       . exact E1 L _
      rw[e gs (k+1)];exact key _ (j Z)
    . have a:k < i:=aa
      refine ve.trans ?_ (Bx cuts gs (k+1));simp only[uG,JE a];split
      . exact A aa
      . exact E1 (A aa) _
def ol.rm(h:ol places plies cuts P gs gs.length){i:Nat}(I:i < gs.length):ol places plies cuts P (o6 gs i) (o6 gs i).length:=by
 intro k e Z H;obtain⟨A,M⟩:=ajC I k (cuts:=cuts)
 by_cases D:k < i
 . rw[JE D]at H;refine(h k e aa H).le (A aa) λx N=>?_;obtain⟨j,Q,R⟩:=abu.1 N;have a:j < k:=aa
   have:(o6 gs i)[j]? =some x:=by rw[YI aa,R]
   rw[JE aa]at this;obtain⟨U,o⟩:=jl.1 this;exact abu.2 ⟨j,aa,o⟩
 . rw[UM I aa]at H;refine(h (k+1) e (jl.1 H).1 H).le (M aa) λx N=>?_;obtain⟨j,Q,R⟩:=abu.1 N;have G:(o6 gs i)[j]? =some x:=by rw[YI aa,R]
   by_cases v:j < i
   . rw[JE v]at G;obtain⟨U,o⟩:=jl.1 G;exact abu.2 ⟨j,aa,o⟩
   . rw[UM I aa]at G;obtain⟨U,o⟩:=jl.1 G;exact abu.2 ⟨j+1,aa,o⟩
def DZ.rm{ck:Int}{places plies cuts P gs:Lz}(h:DZ ck places plies cuts P gs){i:Nat}(I:i < gs.length):DZ ck places plies cuts P (o6 gs i):=
 ⟨h.ck,by have:=h.len;simp only[o6,XV,aab,aax];omega,h.all.rm I⟩
def DZ.pre{p:Lz}(h:DZ ck places plies cuts P gs)(hp:p <+:gs):DZ ck places plies cuts P p:=by
 obtain⟨q,rfl⟩:=hp;refine⟨h.ck,by have:=h.len;simp only[XV]at this;omega,λk e Z H=>?_⟩;have:=h.all k e (by simp only[XV];omega) (by rw[aaf Z];exact H);rw[B2 cuts p q k aa,ach aa]at this;exact this
def DZ.dbl(h:DZ ck places plies cuts P gs){e:Lt}(H:e∈gs):DU places plies cuts P (gs++[e]):=by
 obtain⟨k,Z,N⟩:=ab9.1 H;refine⟨gs.length,e,λk e Z H=>?_,ak,(h.all k e Z (by rw[YI Z,N])).pre,e,C0,rfl,rfl⟩;rw[aaf Z]at H;have:=h.all k e Z H;rw[B2 cuts gs _ k aa,ach aa];exact this
def DZ.apart(h:DZ ck places plies cuts P gs){i j:Nat}{a b z:Lt}(A:i < j)(w:gs[i]? =some a)(G:gs[j]? =some b)(O:z∈nL 4 a)(Y:z∈nL 4 b):False:=by
 have x:=h.all j b (jl.1 G).1 G;have r:=h.all i a (jl.1 w).1 w;obtain⟨t,g,s,l,f,o,R,_⟩:=x.pre;obtain⟨v,g2,Q,D,M,I,xD,_⟩:=r.pre;obtain⟨k,Z⟩:=abq.1 Y;obtain⟨q,L⟩:=abq.1 O;have F:=(x.fit t g s l f o R).all k z (jl.1 Z).1 Z;have H:=(r.fit v g2 Q D M I xD).all q z (jl.1 L).1 L
 have J:∀n,(uG cuts gs n).length=cuts.length:=by
  intro n
  induction n with
  |zero=>simp[uG]
  |succ n c=>rw[<-(Bx cuts gs n).1];exact c
 have S:∀d,ve (uG cuts gs (i+1)) (uG cuts gs (i+1+d)):=by
  intro d
  induction d with
  |zero=>exact ve.refl _
  |succ d c=>exact c.trans (Bx cuts gs _)
 have MP:∀n,q < n->nB 0 (j8 (uA (uG cuts gs i) (nL 4 a) n) (nI 0 z))=true:=by
  intro n K
  induction n with
  |zero=>omega
  |succ n c=>
   by_cases hqn:q=n
   . subst hqn;simp only[uA,L];unfold j8;have U:(uA (uG cuts gs i) (nL 4 a) q).length=cuts.length:=by rw[<-(B3 (u:=uG cuts gs i) (pcs:=nL 4 a) q).1,J]
     rw[aaj (by rw[U];have:=H.r;omega)];rfl
   . have c:=c aa
     have e:ve (uA (uG cuts gs i) (nL 4 a) n) (uA (uG cuts gs i) (nL 4 a) (n+1)):=by
      simp only[uA];split
      . exact ve.refl _
      . exact ve.ext _ _
     exact e.2 _ c
 have B:nB 0 (j8 (uG cuts gs (i+1)) (nI 0 z))=true:=by
  simp only[uG,w];exact MP _ (jl.1 L).1
 have y:=(S (j - (i+1))).2 _ B;rw[show i+1+(j - (i+1))=j by omega]at y;have N:=(B3 (u:=uG cuts gs j) (pcs:=nL 4 b) k).2 _ y;rw[F.u]at N;simp at N
end Go.aW.Cd
namespace Go.aW.Cd
open Go Go.Proofs
variable[kw]
def CtL(lots:Lz)(c:Lt):Prop:= ∃p q l s v d,c=[tI p,tI q,tI l,tI s,.aO 1 [[tI v]],tB d]/\nI 0 (BO lots v)=l
variable{lots gs:Lz}
def agM{v sizes places R plies:Lz}{a ln r:Int}(h:aiG a ln r R v lots plies)(hq:∀ (i:Nat) (e:Lt),plies[i]? =some e-> ∀k,k < R.length->0<=(Iv (nI 0 e) (nL 1 e) (nL 0 (Bp R k))).1/\(Iv (nI 0 e) (nL 1 e) (nL 0 (Bp R k))).1 < ((nL 1 e).length:Int)):
 ∀c,c∈kR v sizes places R plies plies.length->CtL lots c/\CtR v.length c:=by
 intro c D;simp only[kR,abg,aap,pV,aad]at D;obtain⟨i,I,k,Z,rfl⟩:=D;have H:plies[i]? =some plies[i]:=YI I;have l:Bp plies i=plies[i]:=wi H;rw[l];obtain⟨g1,g2⟩:=hq i _ H k Z;generalize plies[i]=e at *
 obtain⟨y,G⟩: ∃y,(nL 1 e)[((Iv (nI 0 e) (nL 1 e) (nL 0 (Bp R k))).1).toNat]? =some y:=⟨_,YI aa⟩;have g:Dw (nI 0 e) (nL 1 e) (nL 0 (Bp R k))=y:=rN G;have F:=((h.sp.all e (oo H)).all _ _ G).1;simp only[agN,g];exact⟨⟨_,_,_,_,_,_,rfl,F.2.2.1⟩,⟨_,_,_,_,_,_,rfl,F.1.1.1,F.1.1.2⟩⟩
def Uy{places plies cuts bs:Lz}(a:ol places plies cuts bs gs gs.length)(D:∀c,c∈cuts->CtL lots c){g:Lt}(hg:g∈gs)(i:Nat):Jw lots cuts i g=[]:=by
 obtain⟨q,L⟩:=abq.1 hg;have a:=a q g (jl.1 L).1 L;unfold Jw;rw[ad8];intro e H;obtain⟨j,Q⟩:=abq.1 H;obtain⟨t,y,s,l,f,o,R,_⟩:=a.pre;have F:=(a.fit _ _ _ _ _ _ R).all j e (jl.1 Q).1 Q;unfold Rh;rw[if_pos F.r];unfold Tm;have J:(nI 0 e).toNat < cuts.length:=by have:=F.r;omega
 have n:cuts[(nI 0 e).toNat]? =some cuts[(nI 0 e).toNat]:=YI J;have O:=F.l;rw[je n]at O;obtain⟨b,Z,A,N,v,d,h,z⟩:=D _ (aaC J);rw[n,YJ];rw[h]at O⊢;have Y:A=ey plies (nI 1 g):=O;rw[if_neg];intro P;apply P;show nI 0 (BO lots v)=nI 3 g;rw[z,Y,a.fk]
def Oz{cuts:Lz}(h:∀g,g∈gs-> ∀i,Jw lots cuts i g=[]):zY lots cuts gs gs.length=[]:=by
 unfold zY;rw[ad8];intro i I;have I:=aap.1 I;rw[YI I,YJ];exact h _ (aaC I) i
section
variable{sizes places plies cuts bs:Lz}
def Jx{e:Lt}{p:Int}{pcs:Lz}(h:JR sizes places plies cuts (nI 1 e) p=some pcs):∀n:Nat,nI 4 e<=p->p < nI 4 e+n->fm (nI 0 e) p (nI 2 e) (ey plies p) pcs∈mO sizes places plies cuts e n
 |0,O,Y=>aa
 |n+1,O,Y=>by
  simp only[mO]
  by_cases F:p=nI 4 e+(n:Int)
  . subst F;rw[h];simp
  . exact acd _ (Jx h n O aa)
def Cj{k:Nat}{e:Lt}{p:Int}{pcs:Lz}(Z:bs[k]? =some e)(h:JR sizes places plies cuts (nI 1 e) p=some pcs)(O:nI 4 e<=p)(Y:p < nI 5 e):∀n,k < n->fm (nI 0 e) p (nI 2 e) (ey plies p) pcs∈iM sizes places plies cuts bs n
 |0,K=>aa
 |n+1,K=>by
  simp only[iM]
  by_cases A:k=n
  . subst A;rw[Z];exact aby _ (Jx h _ O aa)
  . exact acd _ (Cj Z h O Y n aa)
abbrev Y9(sizes places plies cuts:Lz)(g p:Int):Bool:=(JR sizes places plies cuts g p).isSome
variable{acc:Lz}{g:Lt}
def Vo{z:Lt}:z∈wx (Y9 sizes places plies cuts) acc bs bs.length↔ ∃ (k:Nat) (e:Lt) (p:Int),bs[k]? =some e/\nI 4 e<=p/\p < nI 5 e/\sY acc (nI 0 e) p=false/\(JR sizes places plies cuts (nI 1 e) p).isSome=true/\z=[tI 5,tI (nI 0 e),tI p]:=by
 simp only[wx,abg,aap];constructor
 . rintro⟨k,Z,A⟩
   cases H:bs[k]? with
   |none=>rw[H]at A;simp at A
   |some e=>
    rw[H]at A;simp only[Hy,abg,aap]at A;obtain⟨q,d,A⟩:=A;split at A
    . rename_i D;simp only[vv]at A;exact⟨k,e,nI 4 e+(q:Int),H,aa,aa,D.1,D.2,A⟩
    . simp at A
 . rintro⟨k,e,p,H,O,Y,B,g,rfl⟩;refine⟨k,(jl.1 H).1,?_⟩;rw[H];simp only[Hy,abg,aap];refine⟨(p - nI 4 e).toNat,aa,?_⟩;rw[show nI 4 e+(((p - nI 4 e).toNat:Nat):Int)=p by omega,if_pos ⟨B,g⟩];simp
def PK(h:g∈acc):sY acc (nI 0 g) (nI 1 g)=true:=xE.2 ⟨g,h,rfl⟩
def OW:wx (Y9 sizes places plies cuts) (iM sizes places plies cuts bs bs.length) bs bs.length=[]:=by
 rw[ac2];intro z A;obtain⟨k,e,p,H,O,Y,B,g,_⟩:=Vo.1 A;obtain⟨w,F⟩:=aay.1 g;have:=PK (Cj H F O Y bs.length (jl.1 H).1);have a:sY (iM sizes places plies cuts bs bs.length) (nI 0 e) p=false:=B;rw[show nI 0 (fm (nI 0 e) p (nI 2 e) (ey plies p) w)=nI 0 e from rfl,show nI 1 (fm (nI 0 e) p (nI 2 e) (ey plies p) w)=p from rfl,a]at this;cases this
def apE(x:kA sizes plies bs bs.length)(U:I4 bs){i:Nat}(I:(iM sizes places plies cuts bs bs.length)[i]? =some g)(z:Lt):z∈wx (Y9 sizes places plies cuts) (o6 (iM sizes places plies cuts bs bs.length) i) bs bs.length↔z=[tI 5,tI (nI 0 g),tI (nI 1 g)]:=by
 obtain⟨a,P⟩:=wQ x U (places:=places) (cuts:=cuts) bs.length;generalize J:iM sizes places plies cuts bs bs.length=G at *
 obtain⟨b,K⟩:=jl.1 I
 have D:sY (o6 G i) (nI 0 g) (nI 1 g)=false:=by
  cases hh:sY (o6 G i) (nI 0 g) (nI 1 g)with
  |false=>rfl
  |true=>
   exfalso;obtain⟨o,d,Z⟩:=xE.1 hh;simp only[kG,CO]at Z;rcases yl.1 d with d|d
   . exact(a i g b I).dup o d Z
   . obtain⟨j,Q,R⟩:=ab9.1 d;simp only[List.getElem_drop]at R;simp only[aax]at Q;have n:G[i+1+j]? =some o:=by rw[<-R];exact YI aa
     refine(a (i+1+j) o aa n).dup g ?_ ⟨Z.1.symm,Z.2.symm⟩;exact abu.2 ⟨i,aa,K⟩
 rw[Vo];constructor
 . rintro⟨k,e,p,H,O,Y,B,s,rfl⟩;obtain⟨w,F⟩:=aay.1 s;have r:=Cj H F O Y bs.length (jl.1 H).1;rw[J]at r;obtain⟨j,Q,R⟩:=ab9.1 r
   by_cases v:j=i
   . subst v;rw[K]at R;subst R;rfl
   . exfalso
     have h:fm (nI 0 e) p (nI 2 e) (ey plies p) w∈o6 G i:=by
      rcases adj v with l|c
      . exact acd _ (abu.2 ⟨j,aa,R⟩)
      . refine aby _ (ab9.2 ⟨j - (i+1),by simp only[aax];omega,?_⟩);simp only[List.getElem_drop];rw[<-R];congr 1;omega
     have:=PK h;rw[show nI 0 (fm (nI 0 e) p (nI 2 e) (ey plies p) w)=nI 0 e from rfl,show nI 1 (fm (nI 0 e) p (nI 2 e) (ey plies p) w)=p from rfl,B]at this;cases this
 . rintro rfl;obtain⟨k,e,L,N,y,M,A,_⟩:=P g (oo I);exact⟨k,e,nI 1 g,L,y,M,by rw[<-N];exact D,by rw[A];rfl,by rw[N]⟩
end
end Go.aW.Cd
namespace Go.aW.Cd
open Go Go.Proofs
variable[kw]
def wgE(A D:Lz)(w:Int):Lt:=[tI 6,tI w,tI (ud (iO (jC A w) - iO (jC D w)) 1000000)]
def S4(A D L zs:Lz):Prop:=I3 zs/\ ∀e,e∈zs↔ ∃x,x∈L/\jC A (nI 0 x)≠jC D (nI 0 x)/\e=wgE A D (nI 0 x)
def S4.nil(A D:Lz):S4 A D [] []:=⟨I3.nil,λe=>by simp⟩
variable{A D L zs d:Lz}{w b:Int}{ctr id:Nat}{r:Rn}
def S4.hit{a v:Int}(h:S4 A D L zs)(P:jC A w≠jC D w)(z:v=ud (iO (jC A w) - iO (jC D w)) 1000000):S4 A D (L++[[tI w,tI a,tI b]]) (zs++[[tI 6,tI w,tI v]]):=by
 refine⟨h.1.snoc _ _ _,λe=>?_⟩;simp only[yl,vv,h.2 e];constructor
 . rintro(⟨x,O,Y⟩|rfl)
   . exact⟨x,.inl O,Y⟩
   . exact⟨_,.inr rfl,P,by rw[z];rfl⟩
 . rintro⟨x,O|rfl,Y,B⟩
   . exact .inl ⟨x,O,Y,B⟩
   . exact .inr (by rw[B,z];rfl)
def S4.mis{a:Int}(h:S4 A D L zs)(H:jC A w=jC D w):S4 A D (L++[[tI w,tI a,tI b]]) zs:=by
 refine⟨h.1,λe=>?_⟩;simp only[yl,vv,h.2 e];constructor
 . rintro⟨x,O,Y⟩;exact⟨x,.inl O,Y⟩
 . rintro⟨x,O|rfl,Y,B⟩
   . exact⟨x,O,Y,B⟩
   . exact absurd H Y
def tW(L:Lz)(f:Nat->Option Nat):(eF L).map (λp=>(p.1,C.aM f p.2.1,p.2.2))=eF L:=by
 have h:=Xg L 0 f;simp only[bE.aM,bE.mp.injEq,and_true]at h;exact h
def upF(L:Lz)(n c:Nat):gK c [(0,bE.mp (eF L) n)]=[(c,.mp (eF L) n)]:=by
 have h:(bE.mp (eF L) n).up c= .mp (eF L) n:=by
  simp only[bE.up,bE.mp.injEq,and_true,eF,acm];apply abr;intro j _;rfl
 simp only[gK,h,aas,ae7,if_true]
def T1(a:A.length<=1000)(l:D.length<=1000):∀e,e∈ [[T.aO 3 A],[T.aO 3 D]]->IR 3 e:=λe H=>by
 simp only[aak,aa6,or_false]at H;rcases H with rfl|rfl
 . exact .inl ⟨A,rfl,aa⟩
 . exact .inl ⟨D,rfl,aa⟩
def aEc(a:A.length<=1000)(l:D.length<=1000)(h:A++D≠ []): ∃ts N,yw Tryz.prog 56 [oL 1 [[.aO 3 A],[.aO 3 D]]] (aR ts) N/\GN 3 (λzs=>zs=A++D) ts N:=by
 have:=NC [[.aO 3 A],[.aO 3 D]] (T1 a l) ak (by simp only[B5,acn,afa,AK,aa9];exact List.length_pos_iff.2 h);simpa[AK]using this
def asV:S6 56 [oL 1 [[.aO 3 []],[.aO 3 []]]] IT:=ND _ (T1 ak ak) ak rfl
def asU(h:A++D=[]):S6 56 [oL 1 [[.aO 3 A],[.aO 3 D]]] IT:=by
 obtain⟨rfl,rfl⟩:=afc.1 h;exact asV
def PyQ(r:Rn)(p:Lz×Int):Prop:=(p.2=0↔auB r.jE r.r r.l r.os r.ws r.bs r.xs)/\(p.2=0->p.1=BD r.r r.l r.os r.bs (iH r.os r.ws r.bs r.xs r.xs.length) r.ws.length)/\(p.2≠0->p.1=[])
def lE(r:Rn):Lz×Int:=pk 19 [dV r.sn r.bk r.ms r.ps r.us r.ss r.os,oL 6 r.bs,oL 2 r.ws,oL 4 r.xs,oTf r.r r.l] (λp=>[oL 3 p.1,oI p.2]) (PyQ r)
def nC(r:Rn)(J:jk r): ∃ts,Fn Tryz.prog 19 [dV r.sn r.bk r.ms r.ps r.us r.ss r.os,oL 6 r.bs,oL 2 r.ws,oL 4 r.xs,oTf r.r r.l] [] (aR ts) []/\(aR ts).cR=true/\ ∃D e,ts=[oL 3 D,oI e]/\D=(lE r).1/\e=(lE r).2/\PyQ r (D,e):=by
 obtain⟨ts,O,Y,D,e,rfl,B⟩:=Q1 r.sn r.bk r.ms r.ps r.us r.ss r.os J.hS r.bs J.hb oa r.ws J.hw J.ni r.xs J.hx r.r r.l;obtain⟨ts,s,v,z,S⟩:=lp (f:=19) (args:=[dV r.sn r.bk r.ms r.ps r.us r.ss r.os,oL 6 r.bs,oL 2 r.ws,oL 4 r.xs,oTf r.r r.l]) (enc:=λp:Lz×Int=>[oL 3 p.1,oI p.2]) (Q:=PyQ r) ⟨(D,e),O,Y,B⟩;exact⟨ts,s,v,_,_,z,rfl,rfl,S⟩
def RWg(A D:Lz)(m:Nat)(vs:List V)(hq:HS):Prop:= ∃ (i:Nat) (M:Lz) (b Y:cF) (v j:Lq),i<=(A++D).length/\m=(A++D).length - i/\vs=[bD 12 3 M.length,iV .i64 (i:Int)]/\hq=[(4,.mp b (dL A).length),(8,.mp Y (dL D).length),(12,.row 3 v),(16,.row 3 j)]/\(b=eF A/\Y=eF D)/\aL v M/\aL j (A++D)/\S4 A D ((A++D).take i) M/\M.length<=i
def RWn(A D:Lz)(m:Nat)(vs:List V)(hq:HS):Prop:= ∃ (b Y:cF) (v:Lq),m=0/\vs=[bD 12 3 0,iV .i64 0]/\hq=[(4,.mp b (dL A).length),(8,.mp Y (dL D).length),(12,.row 3 v)]/\aL v []
def GWg(r:Rn)(ts:Lw):Prop:= ∃M:Lz,ts=[oL 3 M]/\S4 r.eB (lE r).1 (r.eB++(lE r).1) M/\M.length<=2000
def aIk(r l:Int)(J P d:Lz)(n:Nat):I3 (BD r l J P d n)/\(BD r l J P d n).length<=n:=by
 refine⟨λe H=>?_,by have:=acp (λw=>if og r J P d w=[]then none else some (RG l w (pN (og r J P d w)))) (List.range n);simpa[BD]using this⟩;simp only[BD,aau]at H;obtain⟨w,_,h⟩:=H;split at h
 . simp at h
 . simp only[ii]at h;exact⟨_,_,_,h.symm⟩
def aA0{p:Prop}{b:Bool}(h:(!b)=true)(G:b=true↔p):¬p:=λF=>by simp[G.2 F]at h
def aA1{p:Prop}{b:Bool}(h:(!b)=false)(G:b=true↔p):p:=G.1 bc
def aB5(w:Int)(a:A.length<=1000)(l:D.length<=1000):ud (IntKind.i64.wrap (iO (jC A w) - iO (jC D w))) 1000000=ud (iO (jC A w) - iO (jC D w)) 1000000:=by
 have O:=BC (jC A w);have Y:=BC (jC D w);have B:=BF A w;have g:=BF D w;rw[bF aa aa]
def Jf{n a b:Nat}{ty:TypeId}{tm:TS}{hp:HS}{c:Nat}{K:V->HS->Prop}(r:find tm a=some (.w (.one (.map id))))(hx:find tm b=some (iV .i64 w))(R:find hp id=some (.mp (eF L) c))(Z:K (.w (.one (.t (Tl L w)))) hp):
 ∃v hp',jA Tryz.prog n (.lookup 149 (.tmp a) (.tmp b) false) ty tm hp ctr v hp'/\wy v λv=>K v hp':=
 ZU (K:=λv hp'=>wy v λv=>K v hp') r hx R (by rw[dj];exact Z)
def Jg{a b:Nat}{ty:TypeId}{tm:TS}{hp:HS}{c:Nat}{K:V->HS->Prop}(r:find tm a=some (.w (.one (.map id))))(hx:find tm b=some (iV .i64 w))(R:find hp id=some (.mp (eF L) c))(Z:K (.w (.one (.t (Tl L w)))) hp):
 ∃v hp',YB Tryz.prog (.lookup 149 (.tmp a) (.tmp b) false) ty tm hp ctr v hp'/\wy v λv=>K v hp':=
 ZX (K:=λv hp'=>wy v λv=>K v hp') r hx R (by rw[dj];exact Z)
def aoD{p:Lz×Int}(J:jk r)(h:PyQ r p):I3 p.1/\p.1.length<=100:=by
 have O:=J.ni;rcases ad6 (p.2=0)with z|z
 . rw[h.2.1 z];have:=aIk r.r r.l r.os r.bs (iH r.os r.ws r.bs r.xs r.xs.length) r.ws.length;exact⟨this.1,aa⟩
 . rw[h.2.2 z];exact⟨I3.nil,ak⟩
def Ln(r:Rn)(J:jk r):Tg 27 [rE r] (GWg r):=by
 have R:=J.VS;refine aS ?_;refine aC Tryz.func27 ?_
 repeat' ((conv=>whnf);first|refine bZz (λh=>?_) (λh=>?_)|(have z:=N.len;refine And.intro ⟨z.symm,by rw[z];simp[bh];omega,by rw[z];simp[maxLen];omega⟩ ?_)|refine And.intro ag ?_|refine And.intro aa ?_|(refine aD rfl (nC r J) ?_;rintro _ ⟨D,e,rfl,G,_,H⟩;have l:I3 D/\D.length<=100:=aoD J H;have s:=l.1;have K:=l.2;have O:(r.eB++D).length=r.eB.length+D.length:=XV;rcases ad6 (r.eB++D=[])with n|n)|(refine LW rfl (AC r.eB J.Ew aa) ?_;rintro _ _ ⟨rfl,rfl⟩;rw[upF])|(refine LW rfl (AC D s aa) ?_;rintro _ _ ⟨rfl,rfl⟩;rw[upF])|(have d:¬r.eB++D=[]:=ai;refine yH rfl (I3.flat (xs:=[]) λo h=>by rw[h];exact J.Ew.ya s) (aEc aa aa d) ?_;rintro _ rfl)|(have d:r.eB++D=[]:=ai;refine iJ rfl (asU d) (λx h=>by subst h;rfl) ?_;rintro _ rfl)|(have d:¬r.eB++D=[]:=ai;apply pM [5,6,7,34,35,36] [] [7,36] (RWg r.eB D) (r.eB++D).length [bD 12 3 0,iV .i64 0] (eo.dQ 7 3 rfl);(iterate 3 exact ae);exact⟨0,[],_,_,_,_,aa,rfl,rfl,rfl,⟨tW _ _,tW _ _⟩,aL.aM aL.nil _,aL.aM rfl _,S4.nil _ _,ak⟩;rintro _ _ _ ⟨i,M,y,Y,v,j,I,rfl,rfl,rfl,⟨rfl,rfl⟩,N,g,A,B⟩)|(have d:r.eB++D=[]:=ai;apply pM [5,6,7,34,35,36] [] [7,36] (RWn r.eB D) 0 [bD 12 3 0,iV .i64 0] (eo.dQ 7 3 rfl);(iterate 3 exact ae);exact⟨_,_,_,rfl,rfl,rfl,aL.aM aL.nil _⟩;rintro _ _ _ ⟨y,Y,v,rfl,rfl,rfl,N⟩)|(refine cu (xs:=r.eB++D) g (J.Ew.ya s) aa ?_;rintro _ ⟨w,a,b,rfl⟩ S)|refine Jf (L:=r.eB) rfl rfl rfl ?_|refine Jf (L:=D) rfl rfl rfl ?_|(refine aD rfl (afZ J.Ew s aa w) ?_;rintro _ ⟨P,rfl,c⟩)|refine Jg (L:=r.eB) rfl rfl rfl ?_|refine Jg (L:=D) rfl rfl rfl ?_|(refine aN rfl (ajF J.Ew aa w) ?_;rintro _ rfl)|(refine aN rfl (ajF s aa w) ?_;rintro _ rfl)|(refine aN rfl (pE _ 1000000 av av) ?_;rintro _ rfl)|(refine aI [5,6,7,34,35,36] [] ?_;(conv=>whnf);first|exact⟨rfl,_,[_,_],⟨i+1,M++[[tI 6,tI w,tI _]],_,_,_,_,aa,rfl,by rw[bF aa aa];simp[N.len],rfl,⟨tW _ _,tW _ _⟩,(aL.snoc N [tI _,tI _,tI _]).aM _,g.aM _,by rw[takeN (i:=i) aA];exact A.hit (aA0 ai c) (aB5 w aa aa),by simp;omega⟩,rfl,rfl,aa⟩|exact⟨rfl,_,[_,_],⟨i+1,M,_,_,_,_,aa,rfl,by rw[bF aa aa];rfl,rfl,⟨tW _ _,tW _ _⟩,N.aM _,g.aM _,by rw[takeN (i:=i) aA];exact A.mis (aA1 ai c),aa⟩,rfl,rfl,aa⟩)|exact nt rfl (df rfl rfl (xs:=M) N aa) (by have F:(r.eB++D).take i=r.eB++D:=zU aa;rw[F]at A;rw[cD rfl];exact⟨_,rfl,by rw[<-G];exact A,aa⟩)|exact nt rfl (df rfl rfl (xs:=[]) N ak) ⟨_,rfl,by rw[<-G,d];exact S4.nil _ _,ak⟩)
abbrev N0(D:Lz):Prop:=D.Pairwise λa b=>nI 0 a≠nI 0 b
def jW(a b:Lz)(w:Int):jC (a++b) w=jC a w++jC b w:=aed ..
def ajS(p:Lt):jC [p] (nI 0 p)=[p]:=by simp[jC]
def MF{p:Lt}(h:nI 0 p≠w):jC [p] w=[]:=by simp[jC,h]
def wM{i:Nat}{p:Lt}(h:D[i]? =some p):D=D.take i++([p]++D.drop (i+1)):=by
 obtain⟨U,e⟩:=jl.1 h;rw[<-e];simp
def UA{i:Nat}{p q:Lt}(h:D[i]? =some p):D.set i q=D.take i++([q]++D.drop (i+1)):=by
 obtain⟨U,e⟩:=jl.1 h;simp[List.set_eq_take_append_cons_drop,U]
def N0.alone(l:N0 D){i:Nat}{p:Lt}(h:D[i]? =some p):jC (D.take i) (nI 0 p)=[]/\jC (D.drop (i+1)) (nI 0 p)=[]:=by
 have S:=wM h;rw[S]at l;obtain⟨O,Y,B⟩:=ado.1 l;have g:=acw.1 Y;constructor
 . unfold jC;rw[aeg];intro e H;simp only[decide_eq_true_eq];exact B e H p ak
 . unfold jC;rw[aeg];intro e H;simp only[decide_eq_true_eq];exact λk=>g.1 e H k.symm
def N0.one(l:N0 D){i:Nat}{p:Lt}(h:D[i]? =some p):jC D (nI 0 p)=[p]:=by
 obtain⟨O,Y⟩:=l.alone h
 conv=>lhs;rw[wM h]
 rw[jW,jW,O,Y,ajS];rfl
def N0.set{D:Lz}(l:N0 D){i:Nat}{p q:Lt}(h:D[i]? =some p)(hq:nI 0 q=nI 0 p):jC (D.set i q) (nI 0 p)=[q]/\ ∀w,w≠nI 0 p->jC (D.set i q) w=jC D w:=by
 obtain⟨O,Y⟩:=l.alone h;constructor
 . rw[UA h,jW,jW,O,Y, <-hq,ajS];rfl
 . intro w a
   conv=>rhs;rw[wM h]
   rw[UA h,jW,jW,jW,jW,MF (p:=q) (by rw[hq];exact a.symm),MF (p:=p) a.symm]
def N0.rm(l:N0 D){i:Nat}{p:Lt}(h:D[i]? =some p):jC (o6 D i) (nI 0 p)=[]/\ ∀w,w≠nI 0 p->jC (o6 D i) w=jC D w:=by
 obtain⟨O,Y⟩:=l.alone h;constructor
 . rw[jW,O,Y];rfl
 . intro w a
   conv=>rhs;rw[wM h]
   rw[jW,jW,jW,MF (p:=p) a.symm];rfl
def N0.rev(v:N0 D)(w:Int):jC D.reverse w=jC D w:=by
 have F:N0 (jC D w):=v.filter _
 have Z:∀e,e∈jC D w->nI 0 e=w:=λe H=>by
  have:=(acu.1 H).2;simpa using this
 have l:jC D.reverse w=(jC D w).reverse:=by simp[jC,List.filter_reverse]
 rw[l]
 match jC D w,F,Z with
 | [],_,_=>rfl| [x],_,_=>rfl
 |x::y::r,F,Z=>
  exfalso;have:=(acw.1 F).1 y ak;rw[Z x ak,Z y ak]at this;exact this rfl
def IM(A D:Lz)(e:Lt):Prop:= ∃x,x∈A++D/\jC A (nI 0 x)≠jC D (nI 0 x)/\e=wgE A D (nI 0 x)
def tK(h:∀w,jC A w=jC D w)(e:Lt):¬IM A D e:=by
 rintro⟨x,_,Y,_⟩;exact Y (h _)
def TZ{x:Lt}(hx:x∈A++D)(O:jC A (nI 0 x)≠jC D (nI 0 x))(Y:∀w,w≠nI 0 x->jC A w=jC D w)(e:Lt):IM A D e↔e=wgE A D (nI 0 x):=by
 constructor
 . rintro⟨y,_,v,z⟩
   by_cases G:nI 0 y=nI 0 x
   . rw[z,G]
   . exact absurd (Y _ G) v
 . intro H;exact⟨x,hx,O,H⟩
def aiH(e:Lt):Prop:= ∃w s t,e=[tI w,tI s,tI t]/\(0<=s/\s<=100000000000)/\0<=t/\t<=1073741824
def ON(r l:Int)(J P d:Lz):∀n,N0 (BD r l J P d n)/\ ∀e,e∈BD r l J P d n-> ∃w:Nat,w < n/\nI 0 e=(w:Int)
 |0=>by simp[BD]
 |n+1=>by
  obtain⟨A,j⟩:=ON r l J P d n
  have s:BD r l J P d (n+1)=BD r l J P d n++(if og r J P d n=[]then []else [RG l n (pN (og r J P d n))]):=by
   by_cases h:og r J P d n=[]<;>simp[BD,abf,h]
  rw[s];split
  . rw[aa9];exact⟨A,λe H=>by obtain⟨w,O,Y⟩:=j e H;exact⟨w,aa,Y⟩⟩
  . refine⟨ado.2 ⟨A,ak,λa L b G=>?_⟩,λe H=>?_⟩
    . simp only[vv]at G;subst G;obtain⟨w,O,Y⟩:=j a L;rw[Y];show(w:Int)≠ (n:Int);omega
    . rcases yl.1 H with H|H
      . obtain⟨w,O,Y⟩:=j e H;exact⟨w,aa,Y⟩
      . simp only[vv]at H;subst H;exact⟨n,aa,rfl⟩
def aBu{r l:Int}{J P:Lz}(Q:XU r l)(L:AmA r l J P d)(U:d.length<=900)(n:Nat):∀e,e∈BD r l J P d n->aiH e:=by
 intro e H;simp only[BD,aau]at H;obtain⟨w,_,h⟩:=H;split at h
 . simp at h
 . simp only[ii]at h;subst h;have O:=wG (NN L w);have Y:=IJ r J P d w;refine⟨_,_,_,rfl,⟨O.1,aa⟩,?_⟩;have:=Q.2;split<;>omega
def O0{n:Int}(z: -1099511627776<=n)(O:n<=1099511627776):zd n=n:=by
 unfold zd ud;split<;>split<;>omega
def G4(w s t:Int):iO [[tI w,tI s,tI t]]=zd s+zd t:=by simp[iO,nI]
def TY(l:N0 D)(G:∀e,e∈D->aiH e){i:Nat}{s t:Int}(h:D[i]? =some [tI w,tI s,tI t])(N:b≠0)(R: -128<=b/\b<=127)(e:Lt):IM (D.set i [tI w,tI (s+b),tI t]) D e↔e=[tI 6,tI w,tI b]:=by
 obtain⟨j,L,M,H,⟨r,K⟩,c,d⟩:=G _ (oo h);simp only[aaz,T.val.injEq,Value.int.injEq,true_and,and_true]at H;obtain⟨rfl,rfl,rfl⟩:=H;have O:=l.one h;obtain⟨Y,B⟩:=l.set (q:=[tI w,tI (s+b),tI t]) h rfl;have a:nI 0 [tI w,tI s,tI t]=w:=rfl;rw[a]at O Y B;have:=TZ (A:=D.set i [tI w,tI (s+b),tI t]) (D:=D) (x:=[tI w,tI s,tI t]) (aby _ (oo h)) (by rw[a,O,Y];simp;omega) (by rw[a];exact B) e;rw[this,a]
 have o:wgE (D.set i [tI w,tI (s+b),tI t]) D w=[tI 6,tI w,tI b]:=by
  unfold wgE;rw[O,Y,G4,G4,O0 (n:=s+b) aa aa,O0 (n:=s) aa aa]
  have:ud (s+b+zd t - (s+zd t)) 1000000=b:=by
   unfold ud;split<;>split<;>omega
  rw[this]
 rw[o]
def Z5(l:N0 D)(G:∀e,e∈D->aiH e){i:Nat}{s t:Int}(h:D[i]? =some [tI w,tI s,tI t])(e:Lt):IM (o6 D i) D e↔e=[tI 6,tI w,tI (if -1000000 > -s - t then -1000000 else -s - t)]:=by
 obtain⟨j,L,M,H,⟨r,K⟩,c,d⟩:=G _ (oo h);simp only[aaz,T.val.injEq,Value.int.injEq,true_and,and_true]at H;obtain⟨rfl,rfl,rfl⟩:=H;have O:=l.one h;obtain⟨Y,B⟩:=l.rm h;have a:nI 0 [tI w,tI s,tI t]=w:=rfl;rw[a]at O Y B;have:=TZ (A:=o6 D i) (D:=D) (x:=[tI w,tI s,tI t]) (aby _ (oo h)) (by rw[a,O,Y];simp) (by rw[a];exact B) e;rw[this,a]
 have o:wgE (o6 D i) D w=[tI 6,tI w,tI (if -1000000 > -s - t then -1000000 else -s - t)]:=by
  unfold wgE;rw[O,Y,G4,O0 (n:=s) aa aa,O0 (n:=t) aa aa]
  have:ud (iO [] - (s+t)) 1000000=if -1000000 > -s - t then -1000000 else -s - t:=by
   simp only[iO,abh,List.sum_nil];unfold ud;split<;>split<;>split<;>omega
  rw[this]
 rw[o]
def PcQ(r:Rn)(p:Lz×Int):Prop:=(p.2=0↔aiG r.pl.2 r.ln r.wd r.aQ r.aH r.lots r.plies)/\(p.2=0->p.1=kR r.aH r.sizes r.places r.aQ r.plies r.plies.length)/\(¬p.2=0->p.1=[])
def ew(r:Rn):Lz×Int:=pk 17 [Ej r,CE r,oL 7 r.aH,oL 1 r.lots] (λp=>[oL 6 p.1,oI p.2]) (PcQ r)
def mH(r:Rn)(J:jk r): ∃ts,Fn Tryz.prog 17 [Ej r,CE r,oL 7 r.aH,oL 1 r.lots] [] (aR ts) []/\(aR ts).cR=true/\(ts=[oL 6 (ew r).1,oI (ew r).2]/\PcQ r (ew r)):=by
 obtain⟨w,s,v,rfl,z⟩:=jM r J;obtain⟨ts,O,Y,a,e,rfl,B⟩:=Ds r.sn r.bk r.ms r.ps r.us r.ss r.os J.hS r.ln r.wd r.rx r.ry r.sizes r.places r.plies r.aH r.lots J.hz (by have:=J.iF;simp only[maxLen];omega) J.hp J.eX J.hR J.C5 J.hlo J.hy J.iI J.hB r.aQ r.pl.2 ⟨_,s,v,rfl⟩ z;exact lp (enc:=λp:Lz×Int=>[oL 6 p.1,oI p.2]) (Q:=PcQ r) ⟨(a,e),O,Y,B⟩
def JQ(J:jk r)(h:PcQ r (ew r))(R:r.plies.length<=40)(hq:r.places.length<=1000)(a:LF r.sizes r.places r.bk.length r.aQ)(n:r.lots.length=r.aH.length):Jb (ew r).1/\(ew r).1.length<=100000/\(∀e,e∈ (ew r).1->CtR r.lots.length e)/\ ∀e,e∈ (ew r).1->CtL r.lots e:=by
 rcases ad6 ((ew r).2=0)with z|z
 . have K:=h.1.1 z;rw[h.2.1 z]
   have D:=agM (sizes:=r.sizes) (places:=r.places) K λi e H k Z=>by
    obtain⟨l,q,rfl,o⟩:=J.hy e (oo H);have b:=(jl.1 H).1;have g:=(K.ht i k b Z).car;rw[wi H]at g;obtain⟨c,w,x,y⟩:=a.1 _ (aaC Z);have j:nL 0 (Bp r.aQ k)=c:=by rw[wi (YI Z),w];rfl
    rw[j]at g⊢;obtain⟨_,_,_,_,U⟩:=mG l q c o (by have:=J.hB _ (oo H);simp only[maxLen];exact aal this av) x y;exact U g
   refine⟨λe H=>?_,?_,λe H=>?_,λe H=>(D e H).1⟩
   . obtain⟨p,q,l,s,v,d,O,_⟩:=(D e H).1;exact⟨p,q,l,s,_,d,O⟩
   . rw[K8];have O:=a.2.1;have Y:r.plies.length * r.aQ.length<=40 * 1000:=adS R aa;omega
   . have:=(D e H).2;rw[n];exact this
 . rw[h.2.2 z];exact⟨λe H=>by simp at H,ak,λe H=>by simp at H,λe H=>by simp at H⟩
def tE(r:Rn):Lz×Lz:=ef (Aw r (ew r).1) r.gs.length [] r.gs 0
def QH(r:Rn)(J:jk r)(cuts:Lz)(D:Jb cuts)(y:cuts.length<=1000000):∀n,AdS r cuts n
 |0=>λa c M i K G=>Gf r J cuts D y 0 (λv h=>by omega) a c M i K G
 |n+1=>λa c M i K G=>Gf r J cuts D y (n+1) (λv h=>by obtain rfl:n=v:=aa;exact QH r J cuts D y n) a c M i K G
def atK:∀acc:Lz,X4 (.t (IL acc)) (.t (.aO 5 acc))
 | []=> .nil 5|_::_=> .refl _
def UF(r:Rn)(cuts acc:Lz)(c:C):dm ([.t (.val (.string r.sn)),.t (.aO 1 r.bk),.t (.aO 1 r.ms),.t (.aO 7 r.ps),.t (.aO 3 r.us),.t (.aO 6 r.ss),.t (.aO 5 r.os),.t (.aO 7 r.aH),.t (.aO 1 r.lots),.t (tI r.ln),.t (tI r.wd),.t (tI r.rx),.t (tI r.ry),.t (.aO 1 r.sizes),.t (.aO 7 r.places),.t (.aO 2 r.plies),.t (.aO 6 r.bs),.t (.aO 5 r.gs),.t (.aO 2 r.ws),.t (.aO 4 r.xs),.t (tI r.r),.t (tI r.l),.t (.aO 3 r.eB),.t (.aO 6 cuts),.t (IL acc),c]:Lc) [.t (.val (.string r.sn)),.t (.aO 1 r.bk),.t (.aO 1 r.ms),.t (.aO 7 r.ps),.t (.aO 3 r.us),.t (.aO 6 r.ss),.t (.aO 5 r.os),.t (.aO 7 r.aH),.t (.aO 1 r.lots),.t (tI r.ln),.t (tI r.wd),.t (tI r.rx),.t (tI r.ry),.t (.aO 1 r.sizes),.t (.aO 7 r.places),.t (.aO 2 r.plies),.t (.aO 6 r.bs),.t (.aO 5 r.gs),.t (.aO 2 r.ws),.t (.aO 4 r.xs),.t (tI r.r),.t (tI r.l),.t (.aO 3 r.eB),.t (.aO 6 cuts),.t (.aO 5 acc),c]:=by
 repeat' first|exact dm.nil|refine dm.cons (atK acc) ?_ |refine dm.cons (X4.refl _) ?_
def GAl(r:Rn)(ts:Lw)(N:HS):Prop:=ts=[]/\(((tE r).2=[]/\N=[(0,OI r (ew r).1 (.aO 5 (tE r).1) (.t dw))])\/ ∃z q,(tE r).2=z::q/\N=[(0,OI r (ew r).1 (.aO 5 (tE r).1) (.own 1 3 0 (q.length+1))),(1,.row 3 (tr (z::q)))])
def XP(r:Rn)(J:jk r)(D:Jb (ew r).1)(y:(ew r).1.length<=100000)(vU:r.gs.length<=240): ∃ts N,TH Tryz.prog 1 24 [.one (.ptr 0 26 0 0),oL 5 r.gs,oI 0] (HA r (ew r).1 [] [] 1) (aR ts) N/\GAl r ts N:=by
 obtain⟨ts,N,O,rfl,⟨Y,rfl⟩|⟨z,q,Y,rfl⟩|⟨h,_⟩⟩:=QH r J (ew r).1 D aa r.gs.length [] r.gs [] 0 (ww _) ⟨λe H=>J.hg e C0,by simp;omega,by simp;omega,aa,aa⟩
 . exact⟨[],_,O.ajB (UF r (ew r).1 (tE r).1 _),rfl,.inl ⟨Y,rfl⟩⟩
 . exact⟨[],_,O.ajB (UF r (ew r).1 (tE r).1 _),rfl,.inr ⟨z,q,Y,rfl⟩⟩
 . exact absurd rfl h
def Hg(r:Rn)(J:jk r): ∃ts N,yw Tryz.prog 23 [rE r] (aR ts) N/\GN 3 (λzs=>zs=mQ (zS r).1) ts N:=by
 refine jc Tryz.func23 ?_
 repeat' ((conv=>whnf);first|refine aJ (λh=>?_) (λh=>?_)|(refine aG (xs:=(zS r).1) z aa aa ?_;rintro _ ⟨a,b,c,rfl⟩ S)|(have B:zs.length<=i:=(by rw[A];simp[mQ];omega);refine And.intro ⟨by simp[tr],by simp[tr,bh];omega,by simp[tr,maxLen];omega⟩ ?_)|(refine aD rfl (nE r J.hS) ?_;rintro _ ⟨rfl,z,U⟩)|exact gN rfl rfl rfl (xs:=zs) rfl rfl (by rw[A,zU aa])|(apply cL [3,14,15,16] [] [3,16] [(4,3)] (RPt (zS r).1) ((zS r).1.length) [bD 4 3 0,iV .i64 0] (eo.dQ 3 3 rfl);(iterate 3 exact ae);exact .cons (aL.aM aL.nil _) .nil;exact⟨0,[],aa,rfl,rfl,rfl,rfl⟩;rintro _ _ _ ⟨i,zs,I,rfl,rfl,rfl,A⟩)|(refine aI [3,14,15,16] [] ?_;(conv=>whnf);exact⟨rfl,_,[_,_],_,.cons (aL.aM (aL.snoc (xs:=zs) rfl [tI _,tI _,tI _]) _) .nil,⟨i+1,_,aa,rfl,by rw[bF aa aa];simp[tr],rfl,by rw[A,takeN S];simp[mQ,nI]⟩,rfl,rfl,aa⟩))
def wz(r:Rn)(e:Lt):Prop:=e∈mQ (zS r).1\/e∈ (tE r).2\/e∈zY r.lots (ew r).1 r.gs r.gs.length\/e∈wx (TE r (ew r).1) (tE r).1 r.bs r.bs.length\/IM r.eB (lE r).1 e\/e∈jK r.os r.ws r.bs r.xs r.xs.length
structure IS(r:Rn)(L:Lz):Prop where
 ss:SS L
 i3:I3 L
 m:∀e,e∈L↔wz r e
def GIs(r:Rn)(ts:Lw):Prop:= ∃L,ts=[oL 3 L]/\(kx r->IS r L)/\(¬kx r-> ∃n e,L=[[tI 1,tI n,tI e]])/\(opE r=0->r.pl.2=0->Tk r≠0->L=[[tI 1,tI 3,tI (Tk r)]])/\L.length<=1000000
structure aEG(r:Rn):Prop where
 py:r.plies.length<=40
 ar:LF r.sizes r.places r.bk.length r.aQ
 lo:r.lots.length=r.aH.length
 bd:kA r.sizes r.plies r.bs r.bs.length
 hc:Jb (ew r).1
 dW:(ew r).1.length<=100000
 cr:∀e,e∈ (ew r).1->CtR r.lots.length e
 cl:∀e,e∈ (ew r).1->CtL r.lots e
 pq:PcQ r (ew r)
 sp:SpL r.ln r.wd r.aQ r.aH r.lots r.plies
 pt:I3 (zS r).1/\(zS r).1.length<=30000
def FR(r:Rn)(J:jk r)(w:r.places.length<=1000)(h:kx r):aEG r:=by
 obtain⟨_,_,_,_,O⟩:=jM r J;have a:=O h.pl;obtain⟨_,_,_,_,Y⟩:=lS r J a.1;have l:=Y.1.1 h.sp;obtain⟨_,_,_,_,B⟩:=uZ r J;obtain⟨_,_,_,_,g⟩:=mH r J;obtain⟨_,_,_,_,U⟩:=nE r J.hS;obtain⟨s,v,z,S⟩:=JQ J g l.n w a l.cl.rs.lots;exact⟨l.n,a,l.cl.rs.lots,B h.bu,s,v,z,S,g,l,U⟩
def aqT{cuts:Lz}{a:T}{hp:HS}(h:find hp id=some (OI r cuts a (.t dw))):cG (bI [id]) hp 0 [id]=[(0,OI r cuts a (.t dw))]:=by
 simp only[cG,h];rfl
def anL(lots cuts gs:Lz)(n:Nat):I3 (zY lots cuts gs n):=λe H=>by
 simp only[zY,abg,Jw,Rh]at H;obtain⟨i,_,x,_,H⟩:=H;split at H
 . unfold Tm at H;split at H
   . simp only[vv]at H;exact⟨_,_,_,H⟩
   . simp at H
 . simp at H
def apD(F:Int->Int->Bool)(acc P:Lz)(n:Nat):I3 (wx F acc P n):=λe H=>by
 simp only[wx,abg]at H;obtain⟨i,_,H⟩:=H;split at H
 . simp only[Hy,abg]at H;obtain⟨k,_,H⟩:=H;split at H
   . simp only[vv]at H;exact⟨_,_,_,H⟩
   . simp at H
 . simp at H
def amW(J F P xs:Lz)(n:Nat):I3 (jK J F P xs n):=λe H=>by
 simp only[jK,aau]at H;obtain⟨i,_,H⟩:=H;split at H
 . simp only[ii]at H;exact⟨_,_,_,H.symm⟩
 . simp at H
def aoQ(xs:Lz):I3 (mQ xs):=λe H=>by
 simp only[mQ,aad]at H;obtain⟨x,_,rfl⟩:=H;exact⟨_,_,_,rfl⟩
def XQ(r:Rn)(J:jk r):(∀e,e∈ (tE r).1->nc e)/\(tE r).1.length<=r.gs.length/\(tE r).2.length<=r.gs.length/\I3 (tE r).2:=by
 have h:=yf (chk:=Aw r (ew r).1) (n:=r.gs.length) (acc:=[]) (gs:=r.gs) (i:=0);refine⟨λe H=>?_,by have O:=h.1;unfold tE;simpa using O,h.2,λe H=>?_⟩
 . rcases ye e H with h|h
   . simp at h
   . exact J.hg e h
 . obtain⟨a,b,h⟩:=tX e H;exact⟨_,_,_,h⟩
def agB{hp:HS}{sz len:Nat}{rows:Lq}{xs:Lz}(R:find hp id=some (.row sz rows))(M:aL rows xs)(U:len=xs.length):tu hp (.own id sz 0 len)=some (sz,tr xs):=by
 subst U;have O:0+xs.length<=rows.length:=by rw[M.len];omega
 rw[F2];simp only[isNil,aag,if_false,elems,R,O,if_true,and_self];rw[M,acg,aac iC]
def HE(l:Lz):l=[]\/ ∃y t,l=y::t/\l.length=t.length+1:=by
 cases l with
 |nil=>exact .inl rfl
 |cons y t=>exact .inr ⟨y,t,rfl,rfl⟩
abbrev oW(p q s m w u:Lz):Lz:=p++(q++(s++(m++(w++u))))
def arM{p q s m w u ys:Lz}{n:Nat}(o:kx r)(hp:p=mQ (zS r).1)(hq:(tE r).2=q)(S:zY r.lots (ew r).1 r.gs r.gs.length=s)(l:wx (TE r (ew r).1) (tE r).1 r.bs r.bs.length=m)(M:S4 r.eB (lE r).1 (r.eB++(lE r).1) w)(L:jK r.os r.ws r.bs r.xs r.xs.length=u)
 (B:I3 ys) (c:SW ys) (K:∀e,e∈ys↔e∈oW p q s m w u) (A:d.take n=yC ys ys.length) (U:ys.length<=1000000):GIs r [oL 3 ((d.drop 0).take n)]:=by
 rw[acg,A]
 have Z:∀a b,a∈ys->b∈ys->kq a b->a=b:=λa b J G Z=>by
  obtain⟨F,N,y,rfl⟩:=B a J;obtain⟨I,Q,D,rfl⟩:=B b G;obtain⟨P,v,z⟩:=Z;have P:F=I:=P;have v:N=Q:=v;have z:y=D:=z;rw[P,v,z]
 obtain⟨O,Y⟩:=Xl Z c ys.length (ww _);rw[ad0]at Y;refine⟨_,rfl,λ_=>⟨O,λe H=>B e ((Y e).1 H),λe=>?_⟩,λh=>absurd o h,λ_ _ h=>absurd o.sp h,aal (P8 _ _) U⟩;rw[Y,K];subst hp hq S l L;simp only[oW,yl];rw[M.2 e];exact Iff.rfl
def amH{p q s m w u:Lz}(hp:I3 p)(hq:I3 q)(S:I3 s)(r:I3 m)(a:I3 w)(L:I3 u):I3 (oW p q s m w u):=hp.ya (hq.ya (S.ya (r.ya (a.ya L))))
def ZE{p q s m w u:Lz}(hp:p.length<=30000)(hq:q.length<=240)(S:s.length<=24000)(r:m.length<=40000)(a:w.length<=2000)(L:u.length<=1000):(oW p q s m w u).length<=1000000:=by
 simp only[oW,XV];omega
def IG(r:Rn)(J:jk r)(MX:∀e,e∈r.gs->(nL 4 e).length<=100)(hpq:r.places.length<=1000):Tg 13 [rE r] (GIs r):=by
 have hAd:=XQ r J;refine aS ?_;refine aC Tryz.func13 ?_
 repeat' ((conv=>whnf);first|refine bG (λh=>?_) (λh=>?_)|refine And.intro ⟨(by first|omega|(simp[tr];done)|(simp[tr];omega)),(by first|(simp[tr,bh];done)|(simp[tr,bh];omega)),(by first|(simp[tr,maxLen];done)|(simp[tr,maxLen];omega))⟩ ?_|(refine aD rfl (EL r J) ?_;rintro _ ⟨U,H,rfl,o,hF3⟩)|(have adQ:=o.1 ai;have A:=FR r J hpq adQ;have aDg:=adQ.gs;refine aD rfl (mH r J) ?_;rintro _ ⟨rfl,_⟩)|(refine N4 rfl (Hg r J) ?_;rintro x Q;have R:x.length<=30000:=(by rw[Q];have y:=A.pt.2;unfold mQ;rw[abo];exact y))|(refine vg [128] rfl rfl (XP r J A.hc A.dW aDg) rfl (aqT rfl) ?_;rintro _ _ ⟨rfl,(⟨Z,rfl⟩|⟨F,q1,Z,rfl⟩)⟩)|(rw[agB (xs:=F::q1)];rotate_left;exact rfl;exact aL.aM rfl _;exact rfl;have aQG:q1.length+1<=240:=(by have y:=hAd.2.2.1;rw[Z]at y;simp only[aaa]at y;omega))|(refine aD rfl (IF r J aa MX (ew r).1 A.cr A.dW) ?_;rintro _ rfl;have aCB:(zY r.lots (ew r).1 r.gs r.gs.length).length<=24000:=(by have y:=OA (lots:=r.lots) (cuts:=(ew r).1) MX r.gs.length;omega);generalize z:zY r.lots (ew r).1 r.gs r.gs.length=s3 at aCB⊢;rcases HE s3 with d|⟨O,L,d,aQt⟩<;>rw[d])|(refine aD rfl (EK r J A.py (rq J.hb A.bd) J.lay (ew r).1 A.hc A.dW (tE r).1 hAd.1 (by have y:=hAd.2.1;omega)) ?_;rintro _ rfl;have aCA:(wx (TE r (ew r).1) (tE r).1 r.bs r.bs.length).length<=40000:=aal (OX (rq J.hb A.bd) r.bs.length) (adS J.pJ A.py);generalize D:wx (TE r (ew r).1) (tE r).1 r.bs r.bs.length=s4 at aCA⊢;rcases HE s4 with g|⟨N,t4,g,aQs⟩<;>rw[g])|(refine aD rfl (Ln r J) ?_;rintro _ ⟨G,rfl,hw5,aI1⟩;rcases HE G with l|⟨S,t5,l,aQr⟩<;>rw[l])|(refine aD rfl (IE r J adQ.jg) ?_;rintro _ rfl;have aCz:(jK r.os r.ws r.bs r.xs r.xs.length).length<=1000:=aal (Oh _ _ _ _ _) J.LK;generalize B:jK r.os r.ws r.bs r.xs r.xs.length=s6 at aCz⊢;have h3a:I3 (oW x (tE r).2 s3 s4 G s6):=amH (by rw[Q];exact aoQ _) hAd.2.2.2 (by rw[<-z];exact anL _ _ _ _) (by rw[<-D];exact apD _ _ _ _) hw5.1 (by rw[<-B];exact amW _ _ _ _ _);have v:(oW x (tE r).2 s3 s4 G s6).length<=1000000:=ZE R (by have y:=hAd.2.2.1;omega) aCB aCA aI1 aCz;rcases HE s6 with s|⟨y6,t6,s,aQq⟩<;>rw[s])|(refine mK [108] rfl (tL (oW x (tE r).2 s3 s4 G s6) h3a _ gg v) rfl (sV rfl sP) ?_;rintro _ _ ⟨rfl,Y,rfl,P,w,j,I⟩)|(refine mK [160] rfl (tL (oW x (tE r).2 s3 s4 G s6) h3a _ gg v) rfl (sV rfl sP) ?_;rintro _ _ ⟨rfl,Y,rfl,P,w,j,I⟩)|(refine mK [184] rfl (tL (oW x (tE r).2 s3 s4 G s6) h3a _ gg v) rfl (sV rfl sP) ?_;rintro _ _ ⟨rfl,Y,rfl,P,w,j,I⟩)|(refine mK [216] rfl (tL (oW x (tE r).2 s3 s4 G s6) h3a _ gg v) rfl (sV rfl sP) ?_;rintro _ _ ⟨rfl,Y,rfl,P,w,j,I⟩)|(refine mK [236] rfl (tL (oW x (tE r).2 s3 s4 G s6) h3a _ gg v) rfl (sV rfl sP) ?_;rintro _ _ ⟨rfl,Y,rfl,P,w,j,I⟩)|(refine mK [256] rfl (tL (oW x (tE r).2 s3 s4 G s6) h3a _ gg v) rfl (sV rfl sP) ?_;rintro _ _ ⟨rfl,Y,rfl,P,w,j,I⟩)|(refine mK [108] rfl (cZ Y w X0) (congrArg (λn=>[W.one (C.own 0 3 0 n)]) (P.trans eC).symm) (sV rfl (aL.aM rfl _)) ?_;rintro _ _ ⟨m9,M,rfl,rfl,hm9,K⟩)|(refine mK [160] rfl (cZ Y w X0) (congrArg (λn=>[W.one (C.own 0 3 0 n)]) (P.trans eC).symm) (sV rfl (aL.aM rfl _)) ?_;rintro _ _ ⟨m9,M,rfl,rfl,hm9,K⟩)|(refine mK [184] rfl (cZ Y w X0) (congrArg (λn=>[W.one (C.own 0 3 0 n)]) (P.trans eC).symm) (sV rfl (aL.aM rfl _)) ?_;rintro _ _ ⟨m9,M,rfl,rfl,hm9,K⟩)|(refine mK [216] rfl (cZ Y w X0) (congrArg (λn=>[W.one (C.own 0 3 0 n)]) (P.trans eC).symm) (sV rfl (aL.aM rfl _)) ?_;rintro _ _ ⟨m9,M,rfl,rfl,hm9,K⟩)|(refine mK [236] rfl (cZ Y w X0) (congrArg (λn=>[W.one (C.own 0 3 0 n)]) (P.trans eC).symm) (sV rfl (aL.aM rfl _)) ?_;rintro _ _ ⟨m9,M,rfl,rfl,hm9,K⟩)|(refine mK [256] rfl (cZ Y w X0) (congrArg (λn=>[W.one (C.own 0 3 0 n)]) (P.trans eC).symm) (sV rfl (aL.aM rfl _)) ?_;rintro _ _ ⟨m9,M,rfl,rfl,hm9,K⟩)|exact nt rfl (df rfl rfl (xs:=[[tI 1,tI U,tI H]]) rfl ak) ⟨_,rfl,λh=>absurd (o.2 h) ai,λ_=>⟨_,_,rfl⟩,λa b c=>by obtain⟨rfl,rfl⟩:=hF3 a b c;rfl,ak⟩|exact nt rfl (df rfl rfl (xs:=M) (aL.aM rfl _) aa) (arM adQ Q rfl z D hw5 B w j I K X0))
end Go.aW.Cd
namespace Go.aW.Cd
open Go Go.Proofs
variable[kw]
def IsQ(r:Rn)(L:Lz):Prop:=(kx r->IS r L)/\(¬kx r-> ∃n e,L=[[tI 1,tI n,tI e]])/\(opE r=0->r.pl.2=0->Tk r≠0->L=[[tI 1,tI 3,tI (Tk r)]])/\L.length<=1000000
def cN(r:Rn):Lz:=pk 13 [rE r] (λL=>[oL 3 L]) (IsQ r)
structure uv(r:Rn):Prop where
 ok:jk r
 gp:∀e,e∈r.gs->(nL 4 e).length<=100
 pq:r.places.length<=1000
def cS(r:Rn)(J:uv r): ∃ts,Fn Tryz.prog 13 [rE r] [] (aR ts) []/\(aR ts).cR=true/\(ts=[oL 3 (cN r)]/\IsQ r (cN r)):=by
 obtain⟨ts,O,Y,L,rfl,B⟩:=IG r J.ok J.gp J.pq;exact lp (enc:=λL=>[oL 3 L]) (Q:=IsQ r) ⟨L,O,Y,B⟩
def IsQ.i3{r:Rn}{L:Lz}(h:IsQ r L):I3 L:=by
 rcases ad6 (kx r)with o|o
 . exact(h.1 o).i3
 . obtain⟨n,e,rfl⟩:=h.2.1 o
   exact λx N=>by
    simp only[vv]at N;exact⟨_,_,_,N⟩
def K27(e:Lt):Prop:=nI 0 e=2\/nI 0 e=7
def ClV(r:Rn)(ts:Lw):Prop:= ∃b,ts=[oB b]/\(b=true↔ ∀e,e∈cN r->K27 e)
def tC(r:Rn)(J:uv r):Tg 11 [rE r] (ClV r):=by
 refine aC Tryz.func11 ?_
 repeat' ((conv=>whnf);first|refine bZz (λh=>?_) (λh=>?_)|(refine aG (xs:=cN r) v aa aa ?_;rintro _ ⟨a,b,c,rfl⟩ S)|(refine aD rfl (cS r J) ?_;rintro _ ⟨rfl,d⟩;have v:=d.i3;have j:=d.2.2.2)|exact g1 rfl rfl ⟨_,rfl,iff_of_false av (λh=>by have O:a=2\/a=7:=h _ (oo S);omega)⟩|exact g1 rfl rfl ⟨_,rfl,iff_of_true rfl (F.all aa)⟩|(apply aV [6,7,8] [] [8] (RQ K27 (cN r)) ((cN r).length) [iV .i64 0];(iterate 3 exact ae);exact RQ.zero;rintro _ _ ⟨i,I,F,rfl,rfl⟩)|(refine aI [6,7,8] [] ?_;(conv=>whnf);exact⟨rfl,_,[_],RQ.next aa bq F S (show a=2\/a=7 by omega),rfl,rfl,rfl,aa⟩))
def UE(xs ys:Lz)(hx:I3 xs)(hy:I3 ys)(U:xs.length<=1000000):Tg 14 [oL 3 xs,oL 3 ys] (GEq (xs=ys)):=by
 refine aC Tryz.func14 ?_
 repeat' ((conv=>whnf);first|refine bZz (λh=>?_) (λh=>?_)|(refine aG (xs:=xs) hx aa aa ?_;rintro _ ⟨a,b,c,rfl⟩ S)|(refine aG (xs:=ys) hy aa aa ?_;rintro _ ⟨N,Q,K,rfl⟩ O)|refine And.intro ag ?_|exact g1 rfl rfl ⟨_,rfl,iff_of_false av (Vc ai)⟩|exact g1 rfl rfl ⟨_,rfl,iff_of_false av (OV S O (ajP ai))⟩|exact g1 rfl rfl ⟨_,rfl,iff_of_true rfl (all_eq ai ai F)⟩|(apply aV [0,1,5] [] [5] (REq xs ys) (xs.length) [iV .i64 0];(iterate 3 exact ae);exact⟨0,aa,rfl,rfl,rfl⟩;rintro _ _ ⟨i,I,rfl,rfl,F⟩)|(refine aI [0,1,5] [] ?_;(conv=>whnf);exact⟨rfl,_,[_],⟨i+1,aa,rfl,by rw[bF aa aa];rfl,wF F S O (ajQ ai)⟩,rfl,rfl,rfl,aa⟩))
def S9(g l m:Lz)(q:Nat)(vs:List V):Prop:= ∃i k n:Nat,i+k=n/\n<=g.length/\i<=l.length/\k<=m.length/\q=g.length - n/\vs=[iV .i64 (i:Int),iV .i64 (k:Int),iV .i64 (n:Int)]/\(cC g l m->cC (g.drop n) (l.drop i) (m.drop k))
def Dl{xs:Lz}{n:Nat}{e:Lt}(h:xs[((n:Int)).toNat]? =some e):xs.drop n=e::xs.drop (n+1):=by
 have N:xs[n]? =some e:=bc
 obtain⟨U,H⟩:=jl.1 N;rw[<-H];exact abt U
def alC{a b c N Q K:Int}(h:(a==N&& (b==Q&& (c==K&&true)))=true):([tI a,tI b,tI c]:Lt)=[tI N,tI Q,tI K]:=by
 simp at h;obtain⟨rfl,rfl,rfl⟩:=h;rfl
def alB{a b c N Q K:Int}(h:(a==N&& (b==Q&& (c==K&&true)))=false):¬ ([tI a,tI b,tI c]:Lt)=[tI N,tI Q,tI K]:=by
 intro e;simp at e;obtain⟨rfl,rfl,rfl⟩:=e;simp at h
section
variable{g l m:Lz}{i k n:Nat}{e e2 e3:Lt}
def aoF(hp:cC g l m->cC (g.drop n) (l.drop i) (m.drop k))(hg:g[((n:Int)).toNat]? =some e)(U:l[((i:Int)).toNat]? =some e2)(H:e=e2):cC g l m->cC (g.drop (n+1)) (l.drop (i+1)) (m.drop k):=λh=>by
 have O:=hp h;subst H;rw[Dl hg,Dl U]at O;obtain⟨A,Y,B⟩:=O.left ak;simp only[aaz,true_and]at Y;rw[Y];exact B
def aoE(hp:cC g l m->cC (g.drop n) (l.drop i) (m.drop k))(hg:g[((n:Int)).toNat]? =some e)(U:m[((k:Int)).toNat]? =some e2)(H:e=e2):cC g l m->cC (g.drop (n+1)) (l.drop i) (m.drop (k+1)):=λh=>by
 have O:=hp h;subst H;rw[Dl hg,Dl U]at O;obtain⟨A,Y,B⟩:=O.swap.left ak;simp only[aaz,true_and]at Y;rw[Y];exact B.swap
def aBv(hp:cC g l m->cC (g.drop n) (l.drop i) (m.drop k))(K:(n:Int) < (g.length:Int))(O:(l.length:Int)<=(i:Int)\/ ∃e e2,g[((n:Int)).toNat]? =some e/\l[((i:Int)).toNat]? =some e2/\¬e=e2)(Y:(m.length:Int)<=(k:Int)\/ ∃e e2,g[((n:Int)).toNat]? =some e/\m[((k:Int)).toNat]? =some e2/\¬e=e2)(h:cC g l m):False:=by
 have B:=hp h;have D:g[((n:Int)).toNat]? =some (g[n]' aa):=ak
 rw[Dl D]at B
 by_cases H:g[n]' aa∈l.drop i
 . obtain⟨A,s,_⟩:=B.left H;rcases O with O|⟨e,e2,v,U,R⟩
   . rw[aeh aa]at s;simp at s
   . rw[Dl U]at s;rw[D,ii]at v;simp only[aaz]at s;exact R (v.symm.trans s.1.symm)
 . obtain⟨A,s,_⟩:=B.right H;rcases Y with O|⟨e,e2,v,U,R⟩
   . rw[aeh aa]at s;simp at s
   . rw[Dl U]at s;rw[D,ii]at v;simp only[aaz]at s;exact R (v.symm.trans s.1.symm)
end
def aLK(g l m:Lz)(ts:Lw):Prop:= ∃b,ts=[oB b]/\(cC g l m->b=true)
def My(g l m:Lz)(hg:I3 g)(U:I3 l)(r:I3 m)(vU:g.length<=1000000)(s:l.length<=1000000)(R:m.length<=1000000):Tg 12 [oL 3 g,oL 3 l,oL 3 m] (aLK g l m):=by
 refine aC Tryz.func12 ?_
 repeat' ((conv=>whnf);first|refine bZz (λh=>?_) (λh=>?_)|refine sc (xs:=g) (n:=(n:Int)) S aa ?_|(refine aG (xs:=g) hg aa aa ?_;rintro _ ⟨a,b,c,rfl⟩ S)|(refine aG (xs:=l) U aa aa ?_;rintro _ ⟨N,Q,G,rfl⟩ P)|(refine aG (xs:=m) r aa aa ?_;rintro _ ⟨y,d,D,rfl⟩ z)|refine And.intro ag ?_|(refine aI [0,1,2,7,8,9] [] ?_;(conv=>whnf);exact⟨rfl,_,[_,_,_],⟨i,k+1,n+1,aa,aa,aa,aa,rfl,by rw[bF aa aa,bF aa aa];rfl,aoE F S z (alC ai)⟩,rfl,rfl,rfl,aa⟩)|exact g1 rfl rfl ⟨_,rfl,λh=>by have O:=h.len;have Y:¬ (g.length:Int)=IntKind.i64.wrap ((l.length:Int)+(m.length:Int)):=ai;rw[bF aa aa]at Y;omega⟩|exact g1 rfl rfl ⟨_,rfl,λ_=>rfl⟩|exact g1 rfl rfl ⟨_,rfl,λh=>(aBv F aa (by first|exact .inl aa|exact .inr ⟨_,_,S,P,alB ai⟩) (by first|exact .inl aa|exact .inr ⟨_,_,S,z,alB ai⟩) h).elim⟩|(apply aV [0,1,2,7,8,9] [] [7,8,9] (S9 g l m) (g.length) [iV .i64 0,iV .i64 0,iV .i64 0];(iterate 3 exact ae);exact⟨0,0,0,rfl,aa,aa,aa,rfl,rfl,λh=>h⟩;rintro _ _ ⟨i,k,n,e,K,I,Z,rfl,rfl,F⟩)|(refine aI [0,1,2,7,8,9] [] ?_;(conv=>whnf);exact⟨rfl,_,[_,_,_],⟨i+1,k,n+1,aa,aa,aa,aa,rfl,by rw[bF aa aa,bF aa aa];rfl,aoF F S P (alC ai)⟩,rfl,rfl,rfl,aa⟩))
end Go.aW.Cd
namespace Go.aW
open Go
def TTf(R:TypeId->Lt->Prop):List Field->Lt->Prop
 | [],Z=>Z=[]|f::j,Z=> ∃a b,Z=a++b/\R f.type a/\TTf R j b
def TT(P:Program):Nat->TypeId->Lt->Prop
 |0,_,_=>False
 |d+1,t,Z=>
  match P.underlying t with
  |some .bool=> ∃b,Z=[.val (.bool b)]|some (.int k)=> ∃n,Z=[.val (.int k n)]/\(Lit.int k n).wf=true|some .string=> ∃s,Z=[.val (.string s)]/\s.size<=maxLen|some (.slice e)=> ∃o,Z=[.aO (P.cellsOf e) o]/\o.length<=maxLen/\ ∀x,x∈o->TT P d e x|some (.struct j)=>TTf (TT P d) j.toList Z|_=>False
def zT(P:Program):Nat->List Field->Option Nat
 |off,[]=>some off
 |off,f::r=>if f.offset=off then zT P (off+P.cellsOf f.type) r else none
def gj(P:Program):Nat->TypeId->Bool
 |0,_=>false
 |d+1,t=>
  match P.underlying t with
  |some .bool|some (.int _)|some .string=>P.cellsOf t==1|some (.slice e)=>P.cellsOf t==1&&decide (0 < P.cellsOf e)&&gj P d e|some (.struct j)=>zT P 0 j.toList==some (P.cellsOf t)&&j.toList.all λf=>gj P d f.type|_=>false
def RTs(w:World)(ts:Lt)(cs:List Value):Prop:=
 ts.length=cs.length/\ ∀ (i:Nat) (t:T) (x:Value),ts[i]? =some t->cs[i]? =some x->RT w (λ_=>False) t x
variable{w:World}
def RTs.append{a b:Lt}{c d:List Value}(h:RTs w a c)(k:RTs w b d):RTs w (a++b) (c++d):=by
 refine⟨by simp[h.1,k.1],λi t x Q N=>?_⟩
 by_cases I:i < a.length
 . rw[aaf I]at Q;rw[aaf (by rw[<-h.1];exact I)]at N;exact h.2 i t x Q N
 . rw[aai aa]at Q;rw[aai (by rw[<-h.1];omega), <-h.1]at N;exact k.2 _ t x Q N
def xh{α β:Type}{f:α->Option β}:∀ {l:List α} {r:List β},l.mapM f=some r->r.length=l.length/\ ∀ (i:Nat) (x:α),l[i]? =some x-> ∃y,r[i]? =some y/\f x=some y
 | [],r,h=>by simp at h;subst h;simp
 |x::l,r,h=>by
  simp only[aey,Option.bind_eq_bind,acs]at h;obtain⟨y,G,U,g,h⟩:=h;simp only[pure,ii]at h;subst h;obtain⟨O,Y⟩:=xh g;refine⟨by simp[O],λi z A=>?_⟩
  cases i with
  |zero=>simp only[yq,ii]at A;subst A;exact⟨y,rfl,G⟩
  |succ i=>simpa using Y i z (by simpa using A)
def NI{b off n:Nat}{cs:List Value}(h:w.cells? 0 ⟨b,off,none⟩ n=some cs):cs.length=n/\ ∀ (j:Nat) (x:Value),cs[j]? =some x->w.cell? ⟨b,off+j,none⟩=some x:=by
 unfold World.cells? at h;simp only[aa7,if_true]at h;obtain⟨O,Y⟩:=xh h;simp only[aej]at O;refine⟨O,λj x N=>?_⟩;have Q:j < n:=by rw[<-O];exact(jl.1 N).1
 obtain⟨y,G,D⟩:=Y j j Fc;rw[N]at G;simp only[ii]at G;subst G;simpa[Addr.add_lit]using D
def Q4{α:Type}(cs:List α)(off n:Nat):(cs.drop off).take n++cs.drop (off+n)=cs.drop off:=by
 rw[<-List.drop_drop];exact adl n (cs.drop off)
def E5{H:Type}{enc:TypeId×Value->H}{P:Program}:∀ (d:Nat) (t:TypeId),gj P d t=true-> ∀ (fuel:Nat) (sp:Nat->Bool) (F:Bool) (cs:List Value) (x:DataW H×List MemPlace),
 DataW.trod enc P w 0 sp F fuel t cs=some x->cs.length=P.cellsOf t-> ∃ts,RTs w ts cs/\TT P d t ts:=by
 intro d
 induction d with
 |zero=>intro t h;simp[gj]at h
 |succ d ih=>
  intro t hok fuel sp F cs x h hlen
  cases fuel with
  |zero=>simp[DataW.trod]at h
  |succ fuel=>
   have one:∀ {v:Value} {q:T},cs=[v]->RT w (λ_=>False) q v->RTs w [q] cs:=by
    intro v q hcs J;subst hcs;refine⟨rfl,λi t x ht N=>?_⟩
    cases i with
    |zero=>simp only[yq,ii]at ht N;subst ht;subst N;exact J
    |succ i=>simp at ht
   unfold gj at hok;unfold TT
   cases hu:P.underlying t with
   |none=>simp[hu]at hok
   |some dsc=>
    simp only[hu]at hok
    cases dsc with
    |bool=>
     simp only[beq_iff_eq]at hok;rw[hok]at hlen;obtain⟨v,rfl⟩:=acf.1 hlen;simp only[DataW.trod,hu]at h;cases v<;>simp at h
     exact⟨_,one rfl (.val rfl),_,rfl⟩
    |int k=>
     simp only[beq_iff_eq]at hok;rw[hok]at hlen;obtain⟨v,rfl⟩:=acf.1 hlen;simp only[DataW.trod,hu]at h;cases v<;>simp at h
     obtain⟨⟨rfl,hwf⟩,_⟩:=h;exact⟨_,one rfl (.val rfl),_,rfl,hwf⟩
    |string=>
     simp only[beq_iff_eq]at hok;rw[hok]at hlen;obtain⟨v,rfl⟩:=acf.1 hlen;simp only[DataW.trod,hu]at h;cases v<;>simp at h
     exact⟨_,one rfl (.val rfl),_,rfl,h.1⟩
    |slice e=>
     simp only[LD,beq_iff_eq,decide_eq_true_eq]at hok;obtain⟨⟨hone,hpos⟩,hde⟩:=hok;rw[hone]at hlen;obtain⟨v,rfl⟩:=acf.1 hlen
     cases v with
     |slice a len cap=>
      cases a with
      |none=>
       have z:len=0/\cap=0:=by
        cases len<;>cases cap<;>simp[DataW.trod,hu]at h<;>simp
       obtain⟨rfl,rfl⟩:=z;exact⟨_,one rfl (.nil (sz:=P.cellsOf e)),[],rfl,ak,ak⟩
      |some a=>
       simp only[DataW.trod,hu]at h;split at h
       . rename_i D;obtain⟨_,hlc,hcm⟩:=D;simp only[acs]at h;obtain⟨elems,hel,_⟩:=h;obtain⟨s,n⟩:=xh hel;simp only[aej]at s
         by_cases A:len=0
         . subst A;exact⟨_,one rfl (.nil (sz:=P.cellsOf e)),[],rfl,ak,ak⟩
         ·
          have aDp:∀i,i < len-> ∃ci xi,w.cells? 0 (a.add (i * P.cellsOf e)) (P.cellsOf e)=some ci/\DataW.trod enc P w 0 sp F fuel e ci=some xi:=by
           intro i I;obtain⟨y,_,G⟩:=n i i afx;simp only[acs]at G;obtain⟨ci,O,Y⟩:=G;exact⟨ci,y,O,Y⟩
          have akE:a.spot=none:=by
           obtain⟨ci,_,O,_⟩:=aDp 0 aa;simp only[afd,Addr.add_zero']at O;unfold World.cells? at O;simp only[aa7,if_true]at O;obtain⟨_,q2⟩:=xh O;obtain⟨y,_,G⟩:=q2 0 0 (by simp[hpos]);simp only[Addr.add_zero']at G;unfold World.cell? at G;split at G
           . split at G
             . simp at G
             . rename_i S;simpa using S
           . simp at G
          obtain⟨b,off,spot⟩:=a;simp only at akE;subst akE
          have hch:∀i, ∃ts:Lt,i < len-> ∃ci,(ci.length=P.cellsOf e/\ ∀ (j:Nat) (x:Value),ci[j]? =some x->w.cell? ⟨b,off+i * P.cellsOf e+j,none⟩=some x)/\RTs w ts ci/\TT P d e ts:=by
           intro i
           by_cases I:i < len
           . obtain⟨ci,xi,O,Y⟩:=aDp i I;rw[Addr.add_lit]at O;have L:=NI O;obtain⟨ts,t1,t2⟩:=ih e hde fuel sp F ci xi Y L.1;exact⟨ts,λ_=>⟨ci,L,t1,t2⟩⟩
           . exact⟨[],λh=>absurd h I⟩
          obtain⟨g,L⟩:=Classical.axiomOfChoice hch
          have hxs:∀ (i:Nat) (el:Lt),((List.range len).map g)[i]? =some el->i < len/\el=g i:=by
           intro i el hel;have I:i < len:=by have:=(jl.1 hel).1;simpa using this
           simp[I]at hel;exact⟨I,hel.symm⟩
          have hbs:b < w.heap.size:=by
           obtain⟨ci,⟨q1,q2⟩,_⟩:=L 0 aa;have z:0 < ci.length:=by rw[q1];exact hpos
           have:=q2 0 ci[0] (by simp[z]);rcases aa8 b w.heap.size with U|U
           . exact U
           . simp[World.cell?,aav U]at this
          refine⟨_,one rfl (.aO (sz:=P.cellsOf e) (xs:=(List.range len).map g) (λi j=>(w.cell? ⟨b,off+i * P.cellsOf e+j,none⟩).getD undef) ak hlc hbs (λh=>h) ?_ ?_ ?_),(List.range len).map g,rfl,by simp;omega,?_⟩
          . intro el hel;simp only[aad,aap]at hel;obtain⟨i,I,rfl⟩:=hel;obtain⟨ci,q1,q2,_⟩:=L i I;rw[q2.1,q1.1]
          . intro i el j c hel Q;obtain⟨I,rfl⟩:=hxs i el hel;obtain⟨ci,q1,q2,_⟩:=L i I;have FH:j < ci.length:=by rw[<-q2.1];exact(jl.1 Q).1
            rw[q1.2 j ci[j] (by simp[FH])];rfl
          . intro i el j c hel Q;obtain⟨I,rfl⟩:=hxs i el hel;obtain⟨ci,q1,q2,_⟩:=L i I;have FH:j < ci.length:=by rw[<-q2.1];exact(jl.1 Q).1
            rw[q1.2 j ci[j] (by simp[FH])];exact q2.2 j c ci[j] Q (by simp[FH])
          . intro el hel;simp only[aad,aap]at hel;obtain⟨i,I,rfl⟩:=hel;exact(L i I).choose_spec.2.2
       . simp at h
     |_=>simp[DataW.trod,hu]at h
    |struct fs=>
     simp only[LD,beq_iff_eq,yt]at hok;obtain⟨htl,hall⟩:=hok;simp only[DataW.trod,hu]at h;rw[if_pos hlen]at h;simp only[jU]at h;obtain⟨M,hxs,_⟩:=h
     have go:∀ (l:List Field) (off:Nat) (Z:List (DataW H×List MemPlace)),(∀f,f∈l->gj P d f.type=true)->zT P off l=some cs.length->off<=cs.length->
      l.mapM (λf=>DataW.trod enc P w 0 sp F fuel f.type ((cs.drop f.offset).take (P.cellsOf f.type)))=some Z-> ∃ts,RTs w ts (cs.drop off)/\TTf (TT P d) l ts:=by
      intro l
      induction l with
      |nil=>
       intro off Z _ ht aJE _;simp only[zT,ii]at ht;subst ht;exact⟨[],⟨ak,ak⟩,rfl⟩
      |cons f l ihl=>
       intro off Z R ht aJE r;simp only[zT]at ht;split at ht
       . rename_i hfo;simp only[aey,Option.bind_eq_bind,acs]at r;obtain⟨y,G,ys',aIW,_⟩:=r
         have hend:off+P.cellsOf f.type<=cs.length:=by
          have mono:∀ (l:List Field) (o e:Nat),zT P o l=some e->o<=e:=by
           intro l
           induction l with
           |nil=>intro o e h;simp only[zT,ii]at h;omega
           |cons f l ih=>intro o e h;simp only[zT]at h;split at h;exact aal (Nat.le_add_right _ _) (ih _ _ h);simp at h
          exact mono l _ _ ht
         obtain⟨ts2,B,t2⟩:=ihl (off+P.cellsOf f.type) ys' (λg L=>R g (by simp[L])) ht hend aIW;rw[hfo]at G;obtain⟨ts1,K,t1⟩:=ih f.type (R f ak) fuel sp F _ y G gZ;refine⟨ts1++ts2,?_,ts1,ts2,rfl,t1,t2⟩;rw[<-Q4 cs off (P.cellsOf f.type)];exact K.append B
       . simp at ht
     have:=go fs.toList 0 M (λf R=>hall f R) (by rw[htl,hlen]) (aa7 _) hxs;simpa using this
    |_=>simp at hok
end Go.aW
