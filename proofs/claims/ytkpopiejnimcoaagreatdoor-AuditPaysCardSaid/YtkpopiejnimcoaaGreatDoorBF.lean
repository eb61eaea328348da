import Derived.Test.YtkpopiejnimcoaaGreatDoorBE
import Derived.Carry
import Derived.ChangeSame
import Derived.ChangeShapes
import Derived.OpenShut
import Derived.Shelf.LaysM
import Derived.Shelf.Strconv.Itoa3
import Derived.Ground.Names2Prog
import Derived.Test.YtkpopiejnimcoaaGreatDoorProg
set_option linter.all false
set_option maxRecDepth 100000
set_option maxHeartbeats 4000000
namespace Go.aW
open Go Go.RowKit Go.ChangeShapes Go.WideShapes
variable{H:Type}{enc:TypeId×Value->H}{P:Program}
def I5(P:Program)(t:TypeId)(ts:Lt):W:=
 match lc P t with
 |some true=> .agg (ts.map .t)
 |_=>match ts with
  | [x]=> .one (.t x)|_=> .agg (ts.map .t)
variable{base:Nat}
def XI{W:World}{g:Nat->Bool}{d:Nat}{t:TypeId}{v:Value}{x:DataW H}{p:List MemPlace}{ρ:Env}(I:Value.okWide P W .any base t v)(J:DataW.Trod enc P W 0 g true t v x p)(S:gj P (d+1) t=true):
 ∃ts,TT P (d+1) t ts/\RW W (λ_=>False) ρ (I5 P t ts) v:=by
 obtain⟨h,J⟩:=J;unfold Value.okWide at I;have a:=S;unfold gj at a
 cases hu:P.underlying t with
 |none=>simp[hu]at a
 |some o=>
  simp only[hu]at I a
  have n:lc P t=some false->v.oneCell'=true->P.cellsOf t=1-> ∃ts,TT P (d+1) t ts/\RW W (λ_=>False) ρ (I5 P t ts) v:=by
   intro l z b;have r:v.cells.toList=[v]:=by cases v<;>simp[Value.oneCell']at z<;>rfl
   rw[r]at J;obtain⟨ts,O,Y⟩:=E5 (d+1) t S h g true [v] _ J agr;refine⟨ts,Y,?_⟩;have U:ts.length=1:=by simpa using O.1
   obtain⟨q,rfl⟩:=acf.1 U;simp only[I5,l];exact⟨O.2 0 q v rfl rfl,z⟩
  cases o with
  |struct j=>
   simp only at I;obtain⟨R,rfl,L,_⟩:=I;obtain⟨ts,O,Y⟩:=E5 (d+1) t S h g true R.toList _ J af4;refine⟨ts,Y,?_⟩;have l:lc P t=some true:=agj
   simp only[I5,l];refine⟨R,rfl,by simpa using O.1,λk c x Z N=>?_⟩;simp only[yu,jU]at Z;obtain⟨q,s,rfl⟩:=Z;have:=O.2 k q x s iL;exact⟨this,this.cell⟩
  |bool=>
   simp only[beq_iff_eq]at a;refine n agj ?_ a;cases v<;>simp_all[Cell.okWide,Cell.ok,Value.oneCell']
  |int k=>
   simp only[beq_iff_eq]at a;refine n agj ?_ a;cases v<;>simp_all[Cell.okWide,Cell.ok,Value.oneCell']
  |string=>
   simp only[beq_iff_eq]at a;refine n agj ?_ a;cases v<;>simp_all[Cell.okWide,Cell.ok,Value.oneCell']
  |slice e=>
   simp only[LD,beq_iff_eq]at a;refine n agj ?_ a.1.1;cases v<;>simp_all[Cell.okWide,Cell.ok,Value.oneCell']
  |_=>simp at a
def Typed(P:Program)(d:Nat):List TypeId->Lw->Prop
 | [],A=>A=[]|t::Z,A=> ∃a r,A=I5 P t a::r/\TT P d t a/\Typed P d Z r
def Gd{W:World}{base d:Nat}{ρ:Env}:∀ {ts:List TypeId} {vs:List Value} {ds:List (DataW H)} {ps:List MemPlace},DataW.TrodAll enc P W 0 (λ_=>true) true ts vs ds ps->
 (∀ (j:Nat) (t:TypeId) (v:Value),ts[j]? =some t->vs[j]? =some v->Value.okWide P W .any base t v)->(∀t,t∈ts->gj P (d+1) t=true)-> ∃us,Typed P (d+1) ts us/\DJ W (λ_=>False) ρ us vs
 | [],vs,ds,ps,h,_,_=>by
   obtain⟨rfl,_⟩:=trodAll_nil h;exact⟨[],rfl,rfl,ak⟩
 |t::ts,vs,ds,ps,h,g,c=>by
  obtain⟨v,e,x,s,p,q,rfl,rfl,rfl,O,Y⟩:=trodAll_cons h;obtain⟨a,w,b⟩:=XI (ρ:=ρ) (g 0 t v rfl rfl) O (c t ak);obtain⟨us,L,U,l⟩:=Gd (ρ:=ρ) Y (λj M S Q z=>g (j+1) M S af5 agm) (λM Q=>c M Fc);refine⟨I5 P t a::us,⟨a,us,rfl,w,L⟩,by simp[U],λk u y Z G=>?_⟩
  cases k with
  |zero=>
   simp only[yq,ii]at Z G;subst Z;subst G;exact b
  |succ k=>exact l k u y PO zq
def DE(U:laidOutB P=true){W c:World}(G:Below W.heap.size W c):∀ {ts:List TypeId} {vs:List Value} {ds:List (DataW H)} {ps:List MemPlace},DataW.TrodAll enc P W 0 (λ_=>true) true ts vs ds ps->
 (∀t,t∈ts->P.readableRec t=true/\t < P.types.size)->DataW.TrodAll enc P c 0 (λb=>decide (b < W.heap.size)) true ts vs ds ps
 | [],vs,ds,ps,h,_=>by
   obtain⟨rfl,rfl,rfl⟩:=trodAll_nil h;exact trodAll_mk0
 |t::ts,vs,ds,ps,h,Q=>by
  have l:=h.lt;obtain⟨v,e,x,s,p,q,rfl,rfl,rfl,O,Y⟩:=trodAll_cons h;have B:=Below.trod U (Q t ak).1 (Q t ak).2 O G (λz A=>l z (by simp[A]));exact trodAll_cons_mk B (DE U G Y (λM N=>Q M (by simp[N])))
def Iy{W c:World}(h:dA (λb=>W.heap.size<=b) W c):Below W.heap.size W c:=
 ⟨h.os,h.tape,h.output,h.size,λk Z=>h.block k Z aa⟩
def nh{f:FuncId}{I:Func}{s:ChangeSpec}{d:Nat}{W:World}{args:Array Value}{ds gs:List (DataW H)}{before:List MemPlace}
 (U:laidOutB P=true) (hvars:s.vars=[]) (hres:I.resultTypes= #[4]) (aDx:P.underlying 4=some .bool) (hspec:∀ds:List (DataW H),ds.length=I.params.size->(s.fn H ds).results=[.lit (.bool true)]/\(s.fn H ds).args=ds/\(s.fn H ds).vars=[])
 (hdp:∀t,t∈I.params.toList->gj P (d+1) t=true) (hrd:∀t,t∈I.params.toList->P.readableRec t=true/\t < P.types.size)
 (D:∀us,Typed P (d+1) I.params.toList us->Fn P f us [] (.w (.one (.t (.val (.bool true))))) [])
 (hval:∀ (j:Nat) t v,I.params[j]? =some t->args[j]? =some v->Value.okWide P W .any base t v)
 (aDf:uw (λb=>W.heap.size<=b) (λ_=>False) W)
 (B:DataW.Whole enc P I.params.toList s.vars false W args.toList ds gs before):
 Calls P f args W λe W'=> ∃v,e= .returned v/\s.post enc P I false true false false W args v W':=by
 have hW':=B;obtain⟨p,q,a,hV,rfl,hfz,hnd⟩:=B;rw[hvars]at hV;obtain⟨rfl,rfl⟩:=trodVars_none hV;obtain⟨us,L,hru⟩:=Gd (ρ:=λ_=>none) a (λj t v Q z=>hval j t v af5 agm) hdp
 have F:HR (λb=>pK (λ_=>none) [] b\/W.heap.size<=b) (λ_=>False) (λ_=>none) (bJ 4) [] W:=
  ⟨rfl,rfl,λt v z=>by simp[find]at z,λid b G=>by simp[find]at G,λid y b K c G=>by simp[find]at G,λ_ _=>rfl,λ_ h=>h.elim,λb G=> .inr G,aDf.sub (λb G r=>r.elim (λM=>by obtain⟨_,_,R,_⟩:=M;simp[find]at R) (λU=>U)) (λ_ h=>h)⟩
 refine(D us L W (λ_=>False) (λ_=>none) args F hru).mono ?_;rintro e W' ⟨x,l,Z,F',rfl,z,_,S,_,_⟩;have O:(λb=>pK (λ_=>none) [] b\/W.heap.size<=b)=λb=>W.heap.size<=b:=by funext b;simp[pK,find]
 rw[O]at S;have G:=Iy S;have N:x= .bool true:=V.bR (u:= .w (.one (.t (.val (.bool true))))) rfl z;subst N
 have n:ds.length=I.params.size:=by
  have len:∀ {J:List TypeId} {o:List Value} {ds:List (DataW H)} {g:List MemPlace},DataW.TrodAll enc P W 0 (λ_=>true) true J o ds g->ds.length=J.length:=by
   intro J
   induction J with
   |nil=>intro o ds g h;obtain⟨_,rfl,_⟩:=trodAll_nil h;rfl
   |cons t J A=>intro o ds g h;obtain⟨_,_,_,_,_,_,_,rfl,_,_,Y⟩:=trodAll_cons h;simp[A Y]
  simpa using len a
 obtain⟨s1,w,s3⟩:=hspec (ds++[]) (by simpa using n);refine⟨_,rfl,ds,[],_,[],p,[],hW',?_,?_,?_,G.frame _,λh=>by simp at h⟩
 . rw[s1,hres];exact trodAll_mk1 ⟨1,by simp[DataW.trod,Value.cells,aDx]⟩
 . rw[w];simpa using DE U G a hrd
 . rw[s3,hvars];rfl
end Go.aW
namespace Go.aW.Cd
open Go Go.Proofs
def GTr(ts:Lw):Prop:=ts=[oB true]
inductive Sh where
 |int
 |u8
 |bool
 |str
 |sl (cs:List Sh)
mutual
def IsT:Sh->T->Prop
 | .int,t=> ∃n,t= .val (.int .i64 n)| .u8,t=> ∃n:Int,t= .val (.int .u8 n)/\0<=n/\n < 256| .bool,t=> ∃b,t= .val (.bool b)| .str,t=> ∃s,t= .val (.string s)/\s.size<=maxLen| .sl R,t=> ∃o,t= .aO R.length o/\o.length<=maxLen/\ ∀x,x∈o->oe R x
def oe:List Sh->Lt->Prop
 | [],Z=>Z=[]|s::r,Z=> ∃t q,Z=t::q/\IsT s t/\oe r q
end
def wP(f:TypeId->Option (List Sh)):List Field->Option (List Sh)
 | []=>some []
 |x::r=>match f x.type,wP f r with
  |some a,some b=>some (a++b)|_,_=>none
def shapeOf(P:Program):Nat->TypeId->Option (List Sh)
 |0,_=>none
 |d+1,t=>match P.underlying t with
  |some .bool=>some [.bool]|some (.int .i64)=>some [.int]|some (.int .u8)=>some [.u8]|some .string=>some [.str]
  |some (.slice e)=>match shapeOf P d e with
   |some R=>if P.cellsOf e=R.length then some [.sl R]else none
   |none=>none
  |some (.struct j)=>wP (shapeOf P d) j.toList|_=>none
def oe.append:∀ {a b:List Sh} {x y:Lt},oe a x->oe b y->oe (a++b) (x++y)
 | [],b,x,y,h,k=>by simp only[oe]at h;subst h;exact k
 |s::r,b,x,y,h,k=>by
  obtain⟨t,q,rfl,O,Y⟩:=h;exact⟨t,q++y,rfl,O,Y.append k⟩
def fD{P:Program}:∀ {d:Nat} {t:TypeId} {ts:Lt} {Z:List Sh},TT P d t ts->shapeOf P d t=some Z->oe Z ts
 |0,t,ts,Z,h,_=>h.elim
 |d+1,t,ts,Z,h,S=>by
  have Q:∀ {j:List Field} {ts:Lt} {Z:List Sh},TTf (TT P d) j ts->wP (shapeOf P d) j=some Z->oe Z ts:=by
   intro j
   induction j with
   |nil=>
    intro ts Z h S;simp only[wP,ii]at S;subst S;simpa[oe,TTf]using h
   |cons f r c=>
    intro ts Z h S;obtain⟨a,b,rfl,O,Y⟩:=h;simp only[wP]at S;split at S
    . rename_i x y N G;simp only[ii]at S;subst S;exact(fD O N).append (c Y G)
    . simp at S
  simp only[TT]at h;simp only[shapeOf]at S;split at h
  . rename_i L;simp only[L,ii]at S;subst S;obtain⟨b,rfl⟩:=h;exact⟨_,_,rfl,⟨b,rfl⟩,rfl⟩
  . rename_i k L;obtain⟨n,rfl,M⟩:=h;cases k<;>simp only[L]at S<;>simp at S<;>subst S
    all_goals first
     |exact⟨_,_,rfl,⟨n,rfl⟩,rfl⟩
     |(refine⟨_,_,rfl,⟨n,rfl,?_⟩,rfl⟩;simp only[Lit.wf,LD,decide_eq_true_eq]at M;have O:(0:Int)<=n:=M.1;have Y:n<=(255:Int):=M.2;exact⟨O,aa⟩)
  . rename_i L;simp only[L,ii]at S;subst S;obtain⟨s,rfl,S⟩:=h;exact⟨_,_,rfl,⟨s,rfl,S⟩,rfl⟩
  . rename_i e L;simp only[L]at S;obtain⟨o,rfl,O,Y⟩:=h;split at S
    . rename_i R K;split at S
      . rename_i J;simp only[ii]at S;subst S;exact⟨_,_,rfl,⟨o,by rw[J],O,λx N=>fD (Y x N) K⟩,rfl⟩
      . simp at S
    . simp at S
  . rename_i j L;simp only[L]at S;exact Q h S
  . exact h.elim
abbrev akZ:List Sh:=[.str,.sl [.int,.int]]
abbrev MC:List Sh:=[.str,.sl akZ,.int,.sl [.int,.int],.sl [.int,.int],.sl [.int],.bool]
abbrev opS:List Sh:=[.str,.int,.int,.sl [.int],.sl [.int]]
abbrev UD:List Sh:=[.int,.int,.int,.int,.bool,.int]
abbrev MB:List Sh:=[.int,.int,.int,.bool,.int,.int,.int]
abbrev aoK:List Sh:=[.int,.sl [.int,.int,.int,.int]]
abbrev bdS:List Sh:=[.int,.int,.int,.int,.int,.int]
abbrev ctS:List Sh:=[.int,.int,.int,.int,.sl [.int],.bool]
abbrev grS:List Sh:=[.int,.int,.int,.int,.sl [.int]]
abbrev aN1:List Sh:=[.str,.sl [.str],.sl [.int],.sl MC,.sl [.int,.int,.bool],.sl UD,.sl opS,.int,.int,.int,.int,.sl [.int],.sl MB,.sl aoK,.sl bdS,.sl ctS]
def aIN{e:Lt}(h:oe [.int] e):IsI e:=by
 obtain⟨_,_,rfl,⟨a,rfl⟩,rfl⟩:=h;exact⟨a,rfl⟩
variable{xs:Lz}
def J9(h:∀x,x∈xs->oe [.int] x):Is xs:=λe H=>aIN (h e H)
def anI(h:∀x,x∈xs->oe [.int,.int] x):cO xs:=λe H=>by
 obtain⟨_,_,rfl,⟨a,rfl⟩,_,_,rfl,⟨b,rfl⟩,rfl⟩:=h e H;exact⟨a,b,rfl⟩
def aH1(h:∀x,x∈xs->oe [.str] x):Sts xs:=λe H=>by
 obtain⟨_,_,rfl,⟨a,rfl,w⟩,rfl⟩:=h e H;exact⟨a,rfl,w⟩
def asJ(h:∀x,x∈xs->oe akZ x):kz xs:=λe H=>by
 obtain⟨_,_,rfl,⟨s,rfl,S⟩,_,_,rfl,⟨Y,rfl,U,G⟩,rfl⟩:=h e H;exact⟨s,Y,rfl,S,anI G,U⟩
def aIo(h:∀x,x∈xs->oe MC x):∀e,e∈xs->Ta e:=λe H=>by
 obtain⟨_,_,rfl,⟨s,rfl,S⟩,_,_,rfl,⟨B,rfl,d,w⟩,_,_,rfl,⟨g,rfl⟩,_,_,rfl,⟨j,rfl,o,a⟩,_,_,rfl,⟨R,rfl,y,K⟩,_,_,rfl,⟨F,rfl,O,L⟩,_,_,rfl,⟨m,rfl⟩,rfl⟩:=h e H;exact⟨s,B,g,j,R,F,m,rfl,S,⟨asJ w,d⟩,⟨anI a,o⟩,⟨anI K,y⟩,J9 L,O⟩
def aGX(h:∀x,x∈xs->oe [.int,.int,.bool] x):∀e,e∈xs->aEw e:=λe H=>by
 obtain⟨_,_,rfl,⟨a,rfl⟩,_,_,rfl,⟨b,rfl⟩,_,_,rfl,⟨c,rfl⟩,rfl⟩:=h e H;exact⟨a,b,c,rfl⟩
def aH7(h:∀x,x∈xs->oe UD x):∀e,e∈xs->aiM e:=λe H=>by
 obtain⟨_,_,rfl,⟨a,rfl⟩,_,_,rfl,⟨b,rfl⟩,_,_,rfl,⟨c,rfl⟩,_,_,rfl,⟨d,rfl⟩,_,_,rfl,⟨q,rfl⟩,_,_,rfl,⟨f,rfl⟩,rfl⟩:=h e H;exact⟨a,b,c,d,q,f,rfl⟩
def aIw(h:∀x,x∈xs->oe opS x):∀e,e∈xs->ES e:=λe H=>by
 obtain⟨_,_,rfl,⟨s,rfl,S⟩,_,_,rfl,⟨a,rfl⟩,_,_,rfl,⟨b,rfl⟩,_,_,rfl,⟨Y,rfl,c,v⟩,_,_,rfl,⟨A,rfl,r,M⟩,rfl⟩:=h e H;exact⟨s,a,b,Y,A,rfl,S,⟨J9 v,c⟩,J9 M,r⟩
def aIl(h:∀x,x∈xs->oe MB x):X3 xs:=λe H=>by
 obtain⟨_,_,rfl,⟨a,rfl⟩,_,_,rfl,⟨b,rfl⟩,_,_,rfl,⟨c,rfl⟩,_,_,rfl,⟨d,rfl⟩,_,_,rfl,⟨q,rfl⟩,_,_,rfl,⟨f,rfl⟩,_,_,rfl,⟨g,rfl⟩,rfl⟩:=h e H;exact⟨a,b,c,d,q,f,g,rfl⟩
def aPA(h:∀x,x∈xs->oe aoK x):Pys xs:=λe H=>by
 obtain⟨_,_,rfl,⟨a,rfl⟩,_,_,rfl,⟨q,rfl,_⟩,rfl⟩:=h e H;exact⟨a,q,rfl⟩
end Go.aW.Cd
namespace Go.aW.Cd
open Go Go.Proofs
variable[kw]
structure Zy(r:Rn):Prop where
 hS:eu r.sn r.bk r.ms r.ps r.us r.ss r.os
 hR:TG r.aH
 C5:r.aH.length<=maxLen
 hlo:Is r.lots
 aCW:r.lots.length<=maxLen
 hz:Is r.sizes
 iF:r.sizes.length<=maxLen
 hp:X3 r.places
 eX:r.places.length<=maxLen
 hy:LA r.plies
 iI:r.plies.length<=maxLen
 hb:I4 r.bs
 pJ:r.bs.length<=maxLen
 hg:∀e,e∈r.gs->nc e
 vU:r.gs.length<=maxLen
 hw:∀e,e∈r.ws->Bv e
 ni:r.ws.length<=maxLen
 hx:∀e,e∈r.xs->zO e
 LK:r.xs.length<=maxLen
 Ew:I3 r.eB
 VS:r.eB.length<=maxLen
abbrev anV:List Sh:=[.str,.int,.int,.int,.int,.int,.sl [.int,.int,.int,.int]]
abbrev Mk:List Sh:=[.str,.sl [.str],.sl [.int],.sl MC,.sl [.int,.int,.bool],.sl UD,.sl opS,.sl anV,.sl [.int],.int,.int,.int,.int,.sl [.int],.sl MB,.sl aoK,.sl [.int,.int,.int,.int,.int,.int],.sl [.int,.int,.int,.int,.sl [.int]],.sl [.str,.sl [.int]],.sl [.int,.int,.int,.int],.int,.int,.sl [.int,.int,.int]]
def aoC{xs:Lz}(h:∀x,x∈xs->oe [.int,.int,.int,.int] x):∀e,e∈xs-> ∃a b c d,e=[tI a,tI b,tI c,tI d]:=λe H=>by
 obtain⟨_,_,rfl,⟨a,rfl⟩,_,_,rfl,⟨b,rfl⟩,_,_,rfl,⟨c,rfl⟩,_,_,rfl,⟨d,rfl⟩,rfl⟩:=h e H;exact⟨a,b,c,d,rfl⟩
def yS{x:Lt}(h:oe Mk x): ∃r:Rn,x=r.ts/\Zy r:=by
 obtain⟨_,_,rfl,⟨M,rfl,VP⟩,_,_,rfl,⟨l,rfl,z,Q⟩,_,_,rfl,⟨v,rfl,K,m2⟩,_,_,rfl,⟨B,rfl,O,m3⟩,_,_,rfl,⟨A,rfl,G,m4⟩,_,_,rfl,⟨w,rfl,n,m5⟩,_,_,rfl,⟨J,rfl,l6,m6⟩,
  _,_,rfl,⟨N,rfl,l10,m10⟩,_,_,rfl,⟨lots,rfl,l11,m11⟩,_,_,rfl,⟨ln,rfl⟩,_,_,rfl,⟨y,rfl⟩,_,_,rfl,⟨Y,rfl⟩,_,_,rfl,⟨j,rfl⟩,_,_,rfl,⟨sizes,rfl,l7,m7⟩,_,_,rfl,⟨places,rfl,l8,m8⟩,_,_,rfl,⟨plies,rfl,l9,m9⟩,
  _,_,rfl,⟨P,rfl,l12,m12⟩,_,_,rfl,⟨I,rfl,l13,m13⟩,_,_,rfl,⟨F,rfl,l14,m14⟩,_,_,rfl,⟨o,rfl,l15,m15⟩,_,_,rfl,⟨D,rfl⟩,_,_,rfl,⟨ll,rfl⟩,_,_,rfl,⟨eB,rfl,l16,m16⟩,rfl⟩:=h
 refine⟨⟨M,l,v,B,A,w,J,N,lots,ln,y,Y,j,sizes,places,plies,P,I,F,o,D,ll,eB⟩,rfl,⟨⟨VP,aH1 Q,z,J9 m2,K,aIo m3,O,aGX m4,G,aH7 m5,n,aIw m6,l6⟩,λe H=>?_,l10,J9 m11,l11,J9 m7,l7,aIl m8,l8,λe H=>?_,l9,λe H=>?_,l12,λe H=>?_,l13,λe H=>?_,l14,aoC m15,l15,λe H=>?_,l16⟩⟩
 . obtain⟨_,_,rfl,⟨s,rfl,S⟩,_,_,rfl,⟨a,rfl⟩,_,_,rfl,⟨b,rfl⟩,_,_,rfl,⟨c,rfl⟩,_,_,rfl,⟨d,rfl⟩,_,_,rfl,⟨g,rfl⟩,_,_,rfl,⟨Z,rfl,U,R⟩,rfl⟩:=m10 e H;exact⟨s,a,b,c,d,g,Z,rfl,S,aoC R,U⟩
 . obtain⟨_,_,rfl,⟨a,rfl⟩,_,_,rfl,⟨q,rfl,_,L⟩,rfl⟩:=m9 e H;exact⟨a,q,rfl,aoC L⟩
 . obtain⟨_,_,rfl,⟨a,rfl⟩,_,_,rfl,⟨b,rfl⟩,_,_,rfl,⟨c,rfl⟩,_,_,rfl,⟨d,rfl⟩,_,_,rfl,⟨q,rfl⟩,_,_,rfl,⟨f,rfl⟩,rfl⟩:=m12 e H;exact⟨a,b,c,d,q,f,rfl⟩
 . obtain⟨_,_,rfl,⟨a,rfl⟩,_,_,rfl,⟨b,rfl⟩,_,_,rfl,⟨c,rfl⟩,_,_,rfl,⟨d,rfl⟩,_,_,rfl,⟨q,rfl,U,L⟩,rfl⟩:=m13 e H;exact⟨a,b,c,d,q,rfl,J9 L,U⟩
 . obtain⟨_,_,rfl,⟨s,rfl,S⟩,_,_,rfl,⟨q,rfl,U,L⟩,rfl⟩:=m14 e H;exact⟨s,q,rfl,S,J9 L,U⟩
 . obtain⟨_,_,rfl,⟨a,rfl⟩,_,_,rfl,⟨b,rfl⟩,_,_,rfl,⟨c,rfl⟩,rfl⟩:=m16 e H;exact⟨a,b,c,rfl⟩
def Pq6(e:Lt):Prop:=(nL 1 e).length<=6
structure Ya(r:Rn):Prop where
 sz:r.sizes.length<=3
 pc:r.places.length<=8
 py:r.plies.length<=6
 pq:∀e,e∈r.plies->Pq6 e
 rl:r.aH.length<=6
 lo:r.lots.length<=8
 b:r.bs.length<=12
 w:r.ws.length<=6
 x:r.xs.length<=30
 g:r.gs.length<=16
 gp:∀e,e∈r.gs->(nL 4 e).length<=8
 p:r.eB.length<=12
structure F38(np nr nl:Nat)(plies:Lz):Prop where
 p:np<=8
 r:nr<=6
 l:nl<=8
 q:∀e,e∈plies->Pq6 e
def asA(ln r U c:Int)(sizes places plies v lots:Lz)(hy:LA plies)(P:plies.length<=maxLen)(M:TG v)(g:v.length<=maxLen):Tg 36 [pn ln r U c sizes places plies,.one (.t dw),oL 7 v,oL 1 lots] (GBt (F38 places.length v.length lots.length plies)):=by
 refine aC Tryz.func36 ?_
 repeat' ((conv=>whnf);first|refine aJ (λh=>?_) (λh=>?_)|(refine aG (xs:=plies) hy aa aa ?_;rintro _ ⟨H,q,rfl,d⟩ S)|(refine aG (xs:=v) M aa aa ?_;rintro _ ⟨id,y,z,N,Q,K,Z,rfl,D,x,J⟩ s)|exact Wn rfl rfl (λG=>absurd G av)|exact Wn rfl rfl (λ_=>⟨aa,aa,aa,o.all aa⟩)|(apply bp [4,11] [] [11] [(4,7)] (RQ2 Pq6 plies [[iE ln r U c sizes places plies]]) (plies.length) [iV .i64 0];(iterate 3 exact ae);exact .cons (aL.aM (xs:=[iE ln r U c sizes places plies]) rfl _) .nil;exact⟨0,aa,Pre.zero,rfl,rfl,rfl⟩;rintro _ _ _ ⟨i,I,o,rfl,rfl,rfl⟩)|(refine aI [4,11] [] ?_;(conv=>whnf);exact⟨rfl,_,[_],_,.cons (aL.aM (xs:=[iE ln r U c sizes places plies]) rfl _) .nil,RQ2.next aa P o S (show q.length<=6 by omega),rfl,rfl,aa⟩)|(apply bp [2,4,10] [] [10] [(4,7)] (S8 (iE ln r U c sizes places plies) v.length) (v.length) [iV .i64 0];(iterate 3 exact ae);exact .cons (aL.aM (xs:=[iE ln r U c sizes places plies]) rfl _) .nil;exact⟨0,aa,rfl,rfl,rfl⟩;rintro _ _ _ ⟨i,I,rfl,rfl,rfl⟩)|(refine aI [2,4,10] [] ?_;(conv=>whnf);exact⟨rfl,_,[_],_,.cons (aL.aM (xs:=[iE ln r U c sizes places plies]) rfl _) .nil,S8.next aa g,rfl,rfl,aa⟩)|(apply bp [1,2,4,9] [] [9] [(4,7)] (S8 (iE ln r U c sizes places plies) 0) (0) [iV .i64 0];(iterate 3 exact ae);exact .cons (aL.aM (xs:=[iE ln r U c sizes places plies]) rfl _) .nil;exact⟨0,aa,rfl,rfl,rfl⟩;rintro _ _ _ ⟨i,I,rfl,rfl,rfl⟩))
def arZ(ln r U c:Int)(sizes places plies P gs:Lz)(hg:∀e,e∈gs->nc e)(vU:gs.length<=maxLen):Tg 37 [pn ln r U c sizes places plies,oL 6 P,.one (.t dw),oL 5 gs] (GBt (∀e,e∈gs->(nL 4 e).length<=8)):=by
 refine aC Tryz.func37 ?_
 repeat' ((conv=>whnf);first|refine aJ (λh=>?_) (λh=>?_)|(refine aG (xs:=gs) hg aa aa ?_;rintro _ ⟨t,p,s,l,w,rfl,b,a⟩ S)|exact Wn rfl rfl (λG=>absurd G av)|exact Wn rfl rfl (λ_=>F.all aa)|(apply aV [3,10] [] [10] (RQ (λe=>(nL 4 e).length<=8) gs) (gs.length) [iV .i64 0];(iterate 3 exact ae);exact RQ.zero;rintro _ _ ⟨i,I,F,rfl,rfl⟩)|(refine aI [3,10] [] ?_;(conv=>whnf);exact⟨rfl,_,[_],RQ.next aa vU F S (show w.length<=8 by omega),rfl,rfl,rfl,aa⟩)|(apply aV [2,3,9] [] [9] (RI 0) (0) [iV .i64 0];(iterate 3 exact ae);exact RI.zero;rintro _ _ ⟨j,hi2,rfl,rfl⟩))
def zn(r:Rn)(J:Zy r):Tg 16 [rE r] (GBt (Ya r)):=by
 have O:=J.ni;have g:=J.hS.PF;refine aC Tryz.func16 ?_
 repeat' ((conv=>whnf);first|refine bZz (λh=>?_) (λh=>?_)|(refine aG (xs:=r.ws) J.hw aa aa ?_;rintro _ ⟨s,L,rfl,Y,l,R⟩ S)|(refine aG (xs:=r.os) J.hS.hos aa aa ?_;rintro _ ⟨nm,m,t,y,rz,rfl,A⟩ z)|(refine aD rfl (vX r.sn r.bk r.ms r.ps r.us r.ss r.os J.hS (r.sizes.length:Int)) ?_;rintro _ ⟨d,rfl⟩)|(refine aD rfl (asA r.ln r.wd r.rx r.ry r.sizes r.places r.plies r.aH r.lots J.hy J.iI J.hR J.C5) ?_;rintro _ ⟨Q,rfl,o⟩)|(refine aD rfl (arZ r.ln r.wd r.rx r.ry r.sizes r.places r.plies r.bs r.gs J.hg J.vU) ?_;rintro _ ⟨D,rfl,x⟩)|exact Wn rfl rfl (λG=>absurd G av)|exact Wn rfl rfl (λ_=>⟨aa,(o (dM ai)).p,aa,(o (dM ai)).q,(o (dM ai)).r,(o (dM ai)).l,aa,aa,aa,aa,x (dM ai),aa⟩)|(apply bp [1,4] [] [4] [(4,23)] (S8 r.ts r.os.length) (r.os.length) [iV .i64 0];(iterate 3 exact ae);exact .cons (aL.aM (xs:=[r.ts]) rfl _) .nil;exact⟨0,aa,rfl,rfl,rfl⟩;rintro _ _ _ ⟨a,e,rfl,rfl,rfl⟩)|(refine aI [1,4] [] ?_;(conv=>whnf);exact⟨rfl,_,[_],_,.cons (aL.aM (xs:=[r.ts]) rfl _) .nil,S8.next aa g,rfl,rfl,aa⟩)|(apply bp [1,3] [] [3] [(4,23)] (S8 r.ts r.ws.length) (r.ws.length) [iV .i64 0];(iterate 3 exact ae);exact .cons (aL.aM (xs:=[r.ts]) rfl _) .nil;exact⟨0,aa,rfl,rfl,rfl⟩;rintro _ _ _ ⟨i,I,rfl,rfl,rfl⟩)|(refine aI [1,3] [] ?_;(conv=>whnf);exact⟨rfl,_,[_],_,.cons (aL.aM (xs:=[r.ts]) rfl _) .nil,S8.next aa O,rfl,rfl,aa⟩))
variable{r:Rn}
def anT(h:Zy r)(f:Ya r):uv r:=
 ⟨⟨h.hS,h.hz,by have:=f.sz;omega,h.hp,by have:=f.pc;omega,h.hy,by have:=f.py;omega,λe H=>aal (f.pq e H) av,h.hR,f.rl,h.hlo,by have:=f.lo;omega,h.hb,by have:=f.b;omega,h.hg,by have:=f.g;omega,λe H=>aal (f.gp e H) av,h.hw,by have:=f.w;omega,h.hx,by have:=f.x;omega,h.Ew,by have:=f.p;omega⟩,λe H=>aal (f.gp e H) av,by have:=f.pc;omega⟩
def RD(J:jk r)(h:PcQ r (ew r))(f:Ya r):Jb (ew r).1/\(ew r).1.length<=100000:=by
 rcases ad6 ((ew r).2=0)with z|z
 . have K:=h.1.1 z;obtain⟨_,_,_,_,O⟩:=jM r J;have:=JQ J h K.sp.n (by have:=f.pc;omega) (O K.pe) K.sp.cl.rs.lots;exact⟨this.1,this.2.1⟩
 . rw[h.2.2 z];exact⟨λe H=>by simp at H,ak⟩
abbrev bU(r:Rn):Lz:=iM r.sizes r.places r.plies (ew r).1 r.bs r.bs.length
def aBi(r:Rn)(J:jk r)(D:Jb (ew r).1)(y:(ew r).1.length<=100000): ∃ts,Fn Tryz.prog 18 [Ej r,CE r,oL 6 r.bs,oL 6 (ew r).1] [] (aR ts) []/\(aR ts).cR=true/\ ∃l f,ts=[oL 5 l,oI f]/\f=Qw r (ew r).1/\(f=0->l=bU r/\CkQ r (ew r).1 0):=by
 obtain⟨ts,O,Y,rfl,I⟩:=rP r J (ew r).1 D aa;obtain⟨ts,s,v,rfl⟩:=II r.sn r.bk r.ms r.ps r.us r.ss r.os r.ln r.wd r.rx r.ry r.sizes r.places r.plies r.bs (ew r).1 J.lay J.hb (by have:=J.pJ;omega) D bq (Qw r (ew r).1) ⟨_,O,Y,rfl⟩ (λz=>⟨(I z).1,rq J.hb (I z).2.1⟩);refine⟨_,s,v,?_⟩;unfold aaU;split
 . rename_i z;exact⟨_,_,rfl,z.symm,λ_=>⟨rfl,by rw[z]at I;exact I⟩⟩
 . rename_i z;exact⟨_,_,rfl,rfl,λh=>absurd h z⟩
def dn(r:Rn):Rn:={r with gs:=bU r,eB:=(lE r).1}
def aaV{sizes places plies cuts P:Lz}(y:kA sizes plies P P.length)(G:I4 P):∀x,x∈iM sizes places plies cuts P P.length->(nL 4 x).length<=places.length:=λx N=>by
 obtain⟨k,e,_,_,_,_,U,_⟩:=(wQ y G P.length).2 x N;have R:=(pcI _ _ U).Xq;rw[R];exact aal (adE _ _) ak
def aIa(J:jk r)(f:Ya r)(I:CkQ r (ew r).1 0)(hp:I3 (lE r).1/\(lE r).1.length<=100):uv (dn r):=by
 obtain⟨O,Y,_,_⟩:=I rfl;have a:∀x,x∈bU r->(nL 4 x).length<=8:=λx N=>aal (aaV Y J.hb x N) f.pc;refine⟨⟨J.hS,J.hz,J.iF,J.hp,J.eX,J.hy,J.iI,J.hB,J.hR,J.C5,J.hlo,J.aCW,J.hb,J.pJ,λe H=>OD (by have:=J.eX;simp only[maxLen];omega) _ e H,?_,λe H=>aal (a e H) av,J.hw,J.ni,J.hx,J.LK,hp.1,aal hp.2 av⟩,λe H=>aal (a e H) av,by have:=f.pc;show r.places.length<=1000;omega⟩;have B:=Ci (places:=r.places) (cuts:=(ew r).1) O (rq J.hb Y) r.bs.length;have g:=f.b;show(bU r).length<=1000;unfold bU;omega
structure gV(r:Rn):Prop where
 fw:Ya r
 o:jk r
 b:uv (dn r)
 rK:kx (dn r)
 ck:Qw r (ew r).1=0
 pc:(ew r).2=0
 py:(lE r).2=0
 q:IsQ (dn r) (cN (dn r))
def GRd(r:Rn)(ts:Lw):Prop:= ∃ (U:Rn) (l:Lz) (b:Bool),ts=[rE U,oL 3 l,oB b]/\(b=true->U=dn r/\l=cN (dn r)/\gV r)
def O7{L:Lz}(h:IsQ r L)(Y:((L.length:Nat):Int)=0\/ ∃a b c,L[(0:Int).toNat]? =some [tI a,tI b,tI c]/\a≠1):kx r:=by
 rcases ad6 (kx r)with o|o
 . exact o
 . exfalso;obtain⟨n,e,rfl⟩:=h.2.1 o;rcases Y with Y|⟨a,b,c,B,g⟩
   . simp at Y
   . simp at B;exact g B.1.symm
def atM:lc Tryz.prog 47=some true:=ag
def amK:dc Tryz.prog 47=some 23:=ag
def ne1{a:Int}(h:(a !=1)=true):a≠1:=bc
def bZ(r:Rn)(L:Zy r):Tg 9 [rE r] (GRd r):=by
 refine aS ?_;refine aC Tryz.func9 ?_
 repeat' ((conv=>whnf);first|refine bZz (λh=>?_) (λh=>?_)|(refine aG (xs:=cN (dn r)) v aa aa ?_;rintro _ ⟨a,b,c,rfl⟩ S)|refine And.intro ag ?_|(refine aD rfl (zn r L) ?_;rintro _ ⟨n,rfl,z⟩)|(have g:=z (dM ai);have x:=anT L g;have J:=x.ok;refine aD rfl (mH r J) ?_;rintro _ ⟨rfl,w⟩;have K:=RD J w g)|(refine aD rfl (aBi r J K.1 K.2) ?_;rintro _ ⟨l,F,rfl,e,s⟩)|(refine aD rfl (nC r J) ?_;rintro _ ⟨D,N,rfl,rfl,B,H⟩;have A:=aoD J H)|(have o:F=0:=ai;obtain⟨rfl,I⟩:=s o;have y:uv (dn r):=aIa J g I A;refine aD rfl (cS (dn r) y) ?_;rintro _ ⟨rfl,d⟩;have v:=d.i3;have j:=d.2.2.2)|exact H9 rfl (cc atM amK rfl rfl (ww _) rfl (dm.refl _)) (dy 3 rfl) (cv rfl) ⟨r,[],_,rfl,λh=>absurd h av⟩|exact H9 rfl (cc atM amK rfl rfl (ww _) rfl (dm.refl _)) (cv rfl) (cv rfl) ⟨dn r,_,_,rfl,λ_=>⟨rfl,rfl,g,J,y,O7 d (.inl ai),aa,ai,aa,d⟩⟩|exact H9 rfl (cc atM amK rfl rfl (ww _) rfl (dm.refl _)) (cv rfl) (cv rfl) ⟨dn r,_,_,rfl,λG=>⟨rfl,rfl,g,J,y,O7 d (.inr ⟨_,_,_,S,ne1 G⟩),aa,ai,aa,d⟩⟩)
end Go.aW.Cd
namespace Go.aW.Cd
open Go Go.Proofs
variable[kw]
section
variable{r:Rn}
def gV.ff(h:gV r):aEG (dn r):=FR (dn r) h.b.ok h.b.pq h.rK
def gV.ch(h:gV r)(gs:Lz)(hg:∀e,e∈gs->nc e)(vU:gs.length<=1000000):ChQ (dn r) (ew r).1 gs (Aw (dn r) (ew r).1 gs):=by
 obtain⟨_,_,_,_,O⟩:=rQ (dn r) h.b.ok (ew r).1 h.ff.hc (by have Y:(ew r).1.length<=100000:=h.ff.dW;omega) gs hg vU;exact O
def gV.EI(h:gV r):Qw (dn r) (ew r).1=0:=h.ck
def gV.ok(h:gV r):DZ (Qw (dn r) (ew r).1) r.places r.plies (ew r).1 r.bs (bU r):=by
 rw[h.EI];exact aaT h.ff.bd h.o.hb h.rK.gs
def XA(h:gV r){gs:Lz}(hg:∀e,e∈gs->nc e)(x:DZ (Qw (dn r) (ew r).1) r.places r.plies (ew r).1 r.bs gs):Aw (dn r) (ew r).1 gs=0:=(h.ch gs hg (by have:=x.len;omega)).2.1 x
def gV.gr(h:gV r):∀e,e∈bU r->nc e:=h.b.ok.hg
def gV.sh(h:gV r){g:Lt}(hg:g∈bU r)(i:Nat):Jw r.lots (ew r).1 i g=[]:=Uy h.ok.all h.ff.cl hg i
def gV.ad(h:gV r):tE (dn r)=(bU r,[]):=by
 show ef (Aw (dn r) (ew r).1) (bU r).length [] (bU r) 0=_;rw[yg (ww _) (λ_=>by rw[ac1];exact XA h h.gr h.ok),ac1]
def gV.isp(h:gV r)(e:Lt):wz (dn r) e↔e∈mQ (zS r).1\/e∈jK r.os r.ws r.bs r.xs r.xs.length:=by
 have O:zY r.lots (ew r).1 (bU r) (bU r).length=[]:=Oz λg D i=>h.sh D i;have Y:wx (Y9 r.sizes r.places r.plies (ew r).1) (bU r) r.bs r.bs.length=[]:=OW;have B:¬IM (lE r).1 (lE r).1 e:=tK (λ_=>rfl) e;unfold wz;rw[h.ad];show e∈mQ (zS r).1\/e∈ ([]:Lz)\/e∈zY r.lots (ew r).1 (bU r) (bU r).length\/e∈wx (Y9 r.sizes r.places r.plies (ew r).1) (bU r) r.bs r.bs.length\/IM (lE r).1 (lE r).1 e\/e∈jK r.os r.ws r.bs r.xs r.xs.length↔_;rw[O,Y];simp[B]
variable{xs:Lz}{e:Lt}
def ajO(h:e∈mQ xs):nI 0 e=2:=by
 simp only[mQ,aad]at h;obtain⟨x,_,rfl⟩:=h;rfl
def aA6{J F P:Lz}{n:Nat}(h:e∈jK J F P xs n):nI 0 e=7:=by
 simp only[jK,aau]at h;obtain⟨i,_,h⟩:=h;split at h
 . simp only[ii]at h;rw[<-h];rfl
 . simp at h
def gV.R0(h:gV r):IS (dn r) (cN (dn r)):=h.q.1 h.rK
def gV.k27(h:gV r):∀e,e∈cN (dn r)->K27 e:=λe H=>by
 rcases(h.isp e).1 ((h.R0.m e).1 H)with O|O
 . exact .inl (ajO O)
 . exact .inr (aA6 O)
end
abbrev mJ:Prop:=Te 10 [] [oB true]
def qo(r:Rn)(L:Zy r)(w:mJ):Tg 3 [rE r] GTr:=by
 refine aC Tryz.func3 ?_
 repeat' ((conv=>whnf);first|refine bZz (λh=>?_) (λh=>?_)|refine sc (xs:=cN (dn r)) (n:=(i:Int)) S aa ?_|(refine aG (xs:=cN (dn r)) v aa aa ?_;rintro _ ⟨a,d,c,rfl⟩ S;have Z:a=2\/a=7:=e _ (oo S))|(refine aD rfl (w) ?_;rintro _ rfl)|(refine aD rfl (bZ r L) ?_;rintro _ ⟨U,l,b,rfl,F⟩)|(obtain⟨rfl,rfl,M⟩:=F (dM ai);have e:=M.k27;have v:=M.R0.i3;have j:=M.q.2.2.2;apply bp [1,3,5] [] [5] [(4,23)] (S8 (dn r).ts (cN (dn r)).length) (cN (dn r)).length [iV .i64 0];(iterate 3 exact ae);exact .cons (aL.aM (xs:=[(dn r).ts]) rfl _) .nil;exact⟨0,aa,rfl,rfl,rfl⟩;rintro _ _ _ ⟨i,I,rfl,rfl,rfl⟩)|(refine aI [1,3,5] [] ?_;(conv=>whnf);exact⟨rfl,_,[_],_,.cons (aL.aM (xs:=[(dn r).ts]) rfl _) .nil,S8.next aa bq,rfl,rfl,aa⟩)|(refine aD rfl (tC (dn r) M.b) ?_;rintro _ ⟨g,rfl,o⟩;obtain rfl:g=true:=o.2 e)|exact g1 rfl rfl rfl|(exfalso;omega))
end Go.aW.Cd
namespace Go.aW.Cd
open Go Go.Proofs
def NH{a:Tables}{F F':Array Func}:∀l:List ResultVar,dU ⟨a,F⟩ l=dU ⟨a,F'⟩ l
 | []=>rfl
 | .tmp t::r=>by simp only[dU,NH (F:=F) (F':=F') r]
 | .cell t w::r=>by
   simp only[dU,NH (F:=F) (F':=F') r];rfl
def apF{n m:Nat}{S:Func}{rs:List ResultVar}{c:Rc}{x:List Rv}{a b:Bool}(h:Tryz.prog.funcs[n]? =some S)(I:fnI Tryz.progTables S=some (m,rs,c))(g:dU ⟨Tryz.progTables, #[]⟩ rs=some x)(U:jH m c=true):IU Tryz.prog n ⟨m,c,x,a,b⟩:=by
 obtain⟨b,O,Y,B,rfl⟩:=zw (P:=Tryz.prog) I;exact⟨S,b,h,O,Y,B,(NH _).trans g,U⟩
def bN{n m:Nat}{S:Func}{rs:List ResultVar}{c:Rc}{x:List Rv}(h:Tryz.prog.funcs[n]? =some S)(a b:Bool)(I:fnI Tryz.progTables S=some (m,rs,c):=by conv=>lhs;cbv)(g:dU ⟨Tryz.progTables, #[]⟩ rs=some x:=by conv=>lhs;cbv)(U:jH m c=true:=by kernel_rfl): {fr:Gk // IU Tryz.prog n fr}:=⟨⟨m,c,x,a,b⟩,apF h I g U⟩
end Go.aW.Cd
