import Derived.Test.YtkpopiejnimcoaaGreatDoorBA
import Derived.Laws.Strings
import Derived.Test.YtkpopiejnimcoaaGreatDoorProg
set_option linter.all false
set_option maxRecDepth 100000
set_option maxHeartbeats 4000000
namespace Go.aW
open Go
inductive Rc where
 |skip
 |ret
 |exit (id:Nat)
 |seq (a b:Rc)
 |cond (c:eI) (a b:Rc)
 |block (id:Nat) (b:Rc)
 |loop (b:Rc)
 |region (ops:List oc)
 |draw (ops:List oc) (es:List (List Nat))
def bj(P:Program)(c:Array Oper):List Oper->Option (List oc)
 | []=>some []
 |o::r=>
  match bL P o,bj P c r with
  |some x,some l=>
   match o.guard with
   |none=>some (⟨o.dst,none,x⟩::l)
   |some (j,e)=>
    match(c[j]?).bind (·.dst)with
    |some d=>some (⟨o.dst,some (d,e),x⟩::l)|none=>none
  |_,_=>none
def BM:Nat->List (List Nat)->Bool
 |_,[]=>true|i,B::r=>B.all (λe=>decide (e < i))&&BM (i+1) r
def aT(P:Program):Code->Option Rc
 | .skip=>some .skip| .ret=>some .ret| .exit id=>some (.exit id)
 | .seq a b=>match aT P a,aT P b with
   |some x,some y=>some (.seq x y)|_,_=>none
 | .cond c a b=>match aT P a,aT P b with
   |some x,some y=>some (.cond (eR c) x y)|_,_=>none
 | .block id b=>match aT P b with
   |some x=>some (.block id x)|none=>none
 | .loop b=>match aT P b with
   |some x=>some (.loop x)|none=>none
 | .region _ g false=>match bj P g g.toList with
   |some l=>some (.region l)|none=>none
 | .region _ g true=>match bj P g g.toList with
   |some l=>if P.follows .mixedOrders&&BM 0 (g.toList.map bP)then some (.draw l (g.toList.map bP))else none
   |none=>none
 |_=>none
def Oc(tm:TS):List eI->Option Lw
 | []=>some []
 |x::r=>match x.get tm,Oc tm r with
  | .w u,some l=>some (u::l)|_,_=>none
def zo{α:Sort _}(n:Nat)(k:Nat->α):α:=
 match n with
 |0=>k 0|m+1=>k (Nat.succ m)
def jy{α:Sort _}(n:Nat)(k:Nat->α):zo n k=k n:=by cases n<;>rfl
def G5(tm:TS)(dst:Option Nat)(v:V)(K:TS->Prop):Prop:=
 match dst with
 |some d=>K ((d,v)::tm)|none=>K tm
def kJ(tm:TS)(dst:Option Nat)(v:V)(K:TS->Prop):G5 tm dst v K=K (eJ tm dst v):=by cases dst<;>rfl
def fnX(v:V)(us:Lw):Option (FuncId×Lw):=
 match v with
 | .w (.one (.oO f U))=>some (f,us++U.map λp=> .one (.ptr p.1 p.2.1 p.2.2.1 p.2.2.2))| .w (.one (.Ix f true Z))=>some (f,.agg (Z.map .t)::us)| .w (.one (.Ix f false [t]))=>some (f,.one (.t t)::us)
 | .w (.one (.t (.val (.func (.func f) first U))))=>if first.isEmpty&&U.isEmpty then some (f,us)else none
 |_=>none
def YB(P:Program)(op:Op)(ty:TypeId)(tm:TS)(hp:HS)(ctr:Nat)(v:V)(hp':HS):Prop:=
 (∀w,cK w ⟨none,op,ty, "", #[],none⟩=none)/\ ∀ (n:Nat) (o:Oper),o.op=op->o.type=ty->aK P (St.get ⟨n,tm,hp⟩) hp ctr o=some (v,hp')
def XGo(P:Program)(o:oc)(tm:TS)(hp:HS)(ctr:Nat)(K:TS->HS->Nat->Prop):Prop:=
 match o.op with
 | .call f j=>match Oc tm j with
   |some A=> ∃v b,gY P hp ctr f A v b/\wy v λv=>G5 tm o.dst v λs=>zo (ctr+4) λc=>K s b c|none=>False
 | .oP x j=>match Oc tm j with
   |some A=>match fnX (x.get tm) A with
    |some (f,a)=>enters P f=true/\ ∃v b,gY P hp ctr f a v b/\wy v λv=>G5 tm o.dst v λs=>zo (ctr+4) λc=>K s b c|none=>False
   |none=>False
 | .raw Z w=> ∃v b,YB P Z w tm hp ctr v b/\wy v λv=>G5 tm o.dst v λs=>zo (ctr+4) λc=>K s b c|r=>XR r tm hp ctr λv b=>G5 tm o.dst v λs=>zo (ctr+4) λc=>K s b c
def jA(P:Program)(n:Nat)(op:Op)(ty:TypeId)(tm:TS)(hp:HS)(ctr:Nat)(v:V)(hp':HS):Prop:=
 ∀o:Oper,o.op=op->o.type=ty->yp P o n tm hp ctr v hp'
def Bu(P:Program)(n:Nat)(o:oc)(tm:TS)(hp:HS)(ctr:Nat)(K:TS->HS->Nat->Prop):Prop:=
 match o.op with
 | .call f j=>match Oc tm j with
   |some A=> ∃v b F,dI P f A hp ctr v b F/\wy v λv=>G5 tm o.dst v λs=>zo F λc=>K s b c|none=>False
 | .oP x j=>match Oc tm j with
   |some A=>match fnX (x.get tm) A with
    |some (f,a)=>enters P f=true/\ ∃v b F,dI P f a hp ctr v b F/\wy v λv=>G5 tm o.dst v λs=>zo F λc=>K s b c|none=>False
   |none=>False
 | .raw Z w=> ∃v b,jA P n Z w tm hp ctr v b/\wy v λv=>G5 tm o.dst v λs=>zo (ctr+4) λc=>K s b c|r=>XR r tm hp ctr λv b=>G5 tm o.dst v λs=>zo (ctr+4) λc=>K s b c
def XT(P:Program)(n:Nat)(o:oc)(tm:TS)(hp:HS)(ctr:Nat)(K:TS->HS->Nat->Prop):Prop:=
 match jd n o.dst with
 |false=>False
 |true=>
  match o.guard with
  |none=>Bu P n o tm hp ctr K
  |some (d,e)=>
   match find tm d with
   |some (.w (.one (.t (.val (.bool b)))))=>
    match e with
    |true=>br b (Bu P n o ((d,bV true)::tm) hp ctr K) (K (eJ ((d,bV false)::tm) o.dst (.fB [])) hp ctr)|false=>br b (K (eJ ((d,bV true)::tm) o.dst (.fB [])) hp ctr) (Bu P n o ((d,bV false)::tm) hp ctr K)
   |some (.fB [])=>K (eJ tm o.dst (.fB [])) hp ctr|_=>False
def lP(P:Program)(n:Nat):List oc->TS->HS->Nat->(TS->HS->Nat->Prop)->Prop
 | [],d,F,e,K=>K d F e|o::r,d,F,e,K=>XT P n o d F e λd F e=>lP P n r d F e K
def Ro.lG:Ro->List eI
 | .LI x| .box x| .load _ x| .FV _ x| .field _ _ x| .extract x _| .len x| .Rf x| .not x| .neg x| .conv _ x| .XD x=>[x]| .pick c x y=>[c,x,y]| .alloc _=>[]
 | .build _ g=>g.map (·.2.2)
 | .zI _ _ g=>g.map (·.2)
 | .store _ x y| .Kl _ x y| .CS _ _ x y| .make _ _ x y| .append _ _ x y| .bin _ x y| .XF _ x y| .eqA _ _ x y| .Ra x y| .Rb x y| .Uq x y=>[x,y]| .slice _ x H I=>x::(H.toList++I.toList)| .oO _ U=>U| .call _ o=>o| .oP x o=>x::o| .raw Z _=>Z.operands.toList.map eR
def Ro.looks:Ro->Bool
 | .raw Z _=>Go.aW.looks Z| .load .. | .store .. | .append .. | .len .. | .Rf .. | .Ra .. | .Rb .. | .call .. | .oP .. | .conv .. | .XD .. =>true|_=>false
def Ro.wrt:Ro->Bool
 | .raw Z _=>writes Z| .store .. | .append .. =>true|_=>false
def aBM:eI->Option Nat
 | .t n=>some n| .c _=>none
def fz(o:oc)(tm:TS)(ctr:Nat):kT:=
 let h:=if o.op.looks then o.op.lG.flatMap λx=>(x.get tm).ids else []
 ⟨o.dst,o.op.lG.filterMap aBM++(o.guard.map (·.1)).toList,h,four ctr++if o.op.wrt then h else []⟩
def XS(P:Program)(n:Nat)(o:oc)(tm:TS)(hp:HS)(ctr:Nat)(K:kT->TS->HS->Nat->Prop):Prop:=
 match jd n o.dst with
 |false=>False
 |true=>
  match o.guard with
  |none=>XGo P o tm hp ctr (K (fz o tm ctr))
  |some (d,e)=>
   match find tm d with
   |some (.w (.one (.t (.val (.bool b)))))=>
    match e with
    |true=>br b (XGo P o ((d,bV true)::tm) hp ctr (K (fz o ((d,bV true)::tm) ctr))) (K (fz o ((d,bV false)::tm) ctr) (eJ ((d,bV false)::tm) o.dst (.fB [])) hp (ctr+4))|false=>br b (K (fz o ((d,bV true)::tm) ctr) (eJ ((d,bV true)::tm) o.dst (.fB [])) hp (ctr+4)) (XGo P o ((d,bV false)::tm) hp ctr (K (fz o ((d,bV false)::tm) ctr)))
   |some (.fB [])=>K (fz o tm ctr) (eJ tm o.dst (.fB [])) hp (ctr+4)|_=>False
def yj(P:Program)(n:Nat):List oc->List kT->TS->HS->Nat->(List kT->TS->HS->Nat->Prop)->Prop
 | [],j,d,F,e,K=>K j d F e|o::r,j,d,F,e,K=>XS P n o d F e λf d F e=>yj P n r (j++[f]) d F e K
def dP(K:TS->HS->Nat->Prop)(Q:Exit->TS->HS->Nat->Prop):Exit->TS->HS->Nat->Prop
 | .normal=>K|e=>Q e
def yF(id:Nat)(Q:Exit->TS->HS->Nat->Prop):Exit->TS->HS->Nat->Prop
 | .exit S=>if S=id then Q .normal else Q (.exit S)
 |e=>Q e
def eo(tm:TS)(hp:HS)(ctr:Nat)(tm':TS)(hp':HS)(c':Nat):Prop:=
 ∀ (M A:agt) (ρ:Env) (n:Nat) (a:Act) (w:World),Rel M A ρ (bJ ctr) ⟨n,tm,hp⟩ a w-> ∃l s,Rel M l s (bJ c') ⟨n,tm',hp'⟩ a w/\jm ρ s/\fZ M A l w
def eo.aM{tm:TS}{hp:HS}{ctr:Nat}{S:Ren}(I:S.ok=true):eo tm hp ctr (S.tm tm) (S.hp hp) S.ctr:=λM A _ _ _ w J=>by
 obtain⟨s,O,Y⟩:=J.aM I;exact⟨A,s,O,Y,fZ.refl M A w⟩
def eo.refl{tm:TS}{hp:HS}{ctr:Nat}:eo tm hp ctr tm hp ctr:=λM A ρ _ _ w J=>⟨A,ρ,J,jm.refl _,fZ.refl M A w⟩
def eo.trans{tm r tm2:TS}{hp b hp2:HS}{c g K:Nat}(h:eo tm hp c r b g)(k:eo r b g tm2 hp2 K):eo tm hp c tm2 hp2 K:=by
 intro M A ρ n a w J;obtain⟨y,d,O,H,g1⟩:=h M A ρ n a w J;obtain⟨Z,z,Y,o,g2⟩:=k M y d n a w O;exact⟨Z,z,Y,H.trans o,g1.trans g2 (ww _)⟩
inductive bA(J:TS->HS->Nat->Prop):TS->HS->Nat->Prop
 |mk {tm:TS} {hp:HS} {ctr:Nat} (S:Ren) (hok:S.ok=true) (h:J (S.tm tm) (S.hp hp) S.ctr):bA J tm hp ctr
 |sem {tm:TS} {hp:HS} {ctr:Nat} {tm':TS} {hp':HS} {c':Nat} (hw:eo tm hp ctr tm' hp' c') (h:bA J tm' hp' c'):bA J tm hp ctr
 |wk {tm:TS} {hp:HS} {ctr:Nat} {tm':TS} {hp':HS} {c':Nat} (hw:eo tm hp ctr tm' hp' c') (h:J tm' hp' c'):bA J tm hp ctr
variable{ctr:Nat}
def bA.mk'{J:TS->HS->Nat->Prop}{tm:TS}{hp:HS}(h: ∃S:Ren,S.ok=true/\J (S.tm tm) (S.hp hp) S.ctr):bA J tm hp ctr:=by
 obtain⟨S,O,Y⟩:=h;exact .mk S O Y
def bA.get{J:TS->HS->Nat->Prop}{tm:TS}{hp:HS}(h:bA J tm hp ctr): ∃tm' hp' c',eo tm hp ctr tm' hp' c'/\J tm' hp' c':=by
 induction h with
 |mk S I h=>exact⟨_,_,_,eo.aM I,h⟩
 |sem a _ c=>
  obtain⟨tm',hp',c',O,Y⟩:=c;exact⟨tm',hp',c',a.trans O,Y⟩
 |wk a h=>exact⟨_,_,_,a,h⟩
def X(P:Program)(n:Nat):Rc->(Exit->TS->HS->Nat->Prop)->TS->HS->Nat->Prop
 | .skip,Q,d,F,e=>Q .normal d F e| .ret,Q,d,F,e=>Q .ret d F e| .exit id,Q,d,F,e=>Q (.exit id) d F e| .seq a b,Q,d,F,e=>X P n a (dP (X P n b Q) Q) d F e
 | .cond c a b,Q,d,F,e=>
   match(c.get d).jT with
   |some v=>br v (X P n a Q d F e) (X P n b Q d F e)|none=>False
 | .block id b,Q,d,F,e=>X P n b (yF id Q) d F e
 | .loop b,Q,d,F,e=> ∃I:Nat->TS->HS->Nat->Prop,bA (λd F c=> ∃m,I m d F c) d F e/\
    ∀m d F c,I m d F c->X P n b (dP (bA λd F c=> ∃l,l < m/\I l d F c) Q) d F c
 | .region g,Q,d,F,e=>lP P n g d F e (Q .normal)| .draw g B,Q,d,F,e=>yj P n g [] d F e λj d F e=>Dn B j=true/\Q .normal d F e
variable{P:Program}{M A:agt}{ρ:Env}{F:agt}{st:St}{a:Act}{w:World}
def vp(st:St):∀ (xs:List Operand),Oc st.tmps (xs.map eR)=vq st.get xs
 | []=>rfl
 |x::r=>by simp only[aaq,Oc,vq,bW,vp st r];rfl
def sK(n:Nat)(K:TS->HS->Nat->Prop):St->Nat->Prop:=λst c=>st.n=n/\K st.tmps st.heap c
variable{o:Oper}{args:List eI}{x r:Ro}{op:Op}{ctr n:Nat}
def Ea{f:FuncId}(h:aZ P o=some (.call f args)):
 ∃N l,o.op= .call ⟨.value (.func f),N,l⟩/\args=N.toList.map eR/\enters P f=true:=by
 obtain⟨J,Z,w,d,A,K⟩:=o;cases Z
 case call c=>
  obtain⟨D,N,l⟩:=c;simp only[aZ]at h;split at h
  . split at h
    . split at h
      . simp at h
      . simp at h
      . simp at h
    . simp at h
  . split at h
    . simp at h
    . simp at h
  . split at h
    . simp at h
    . simp at h
  . split at h
    . split at h
      . split at h
        . split at h
          . simp at h
          . simp at h
        . simp at h
      . simp at h
    . simp at h
  . rename_i g;split at h
    . rename_i H;simp only[ii,Ro.call.injEq]at h;obtain⟨rfl,rfl⟩:=h;exact⟨N,l,rfl,rfl,H⟩
    . simp at h
  . simp at h
 all_goals
  exfalso;simp only[aZ]at h
  repeat' (split at h)
  all_goals first
   |contradiction
   |(simp at h;done)
   |(simp[jU]at h;done)
def qN{f:FuncId}(h:bL P o=some (.call f args)):
 ∃N l,o.op= .call ⟨.value (.func f),N,l⟩/\args=N.toList.map eR/\enters P f=true:=by
 unfold bL at h;split at h
 . rename_i U g;replace g:=fC g;simp only[ii]at h;subst h;exact Ea g
 . simp only[ii]at h;rcases pW o with⟨t,args,l,_,e⟩|e
   . rw[e]at h;simp at h
   . rw[e]at h;simp at h
def Cq{x:eI}(h:aZ P o=some (.oP x args)):False:=by
 obtain⟨J,Z,w,d,A,K⟩:=o;cases Z<;>simp only[aZ]at h
 all_goals (repeat' split at h)
 all_goals simp at h
def GZ{ty:TypeId}(h:aZ P o=some (.raw op ty)):False:=by
 obtain⟨J,op,ty,d,A,K⟩:=o;cases op<;>simp only[aZ]at h
 all_goals (repeat' split at h)
 all_goals simp at h
def o7{x:eI}(h:bL P o=some (.oP x args)): ∃t N l,o.op= .call ⟨.value (.tmp t),N,l⟩/\x= .t t/\args=N.toList.map eR:=by
 unfold bL at h;split at h
 . rename_i r J;replace J:=fC J;simp only[ii]at h;subst h;exfalso;exact Cq J
 . simp only[ii]at h;rcases pW o with⟨t,N,l,d,e⟩|e
   . rw[e]at h;simp only[Ro.oP.injEq]at h;exact⟨t,N,l,d,h.1.symm,h.2.symm⟩
   . rw[e]at h;simp at h
def gG{ty:TypeId}(h:bL P o=some (.raw op ty)):op=o.op/\ty=o.type:=by
 unfold bL at h;split at h
 . rename_i r J;replace J:=fC J;simp only[ii]at h;subst h;exfalso;exact GZ J
 . simp only[ii]at h;rcases pW o with⟨t,N,l,d,e⟩|e
   . rw[e]at h;simp at h
   . rw[e]at h;simp only[Ro.raw.injEq]at h;exact⟨h.1.symm,h.2.symm⟩
def Bu.wpOp{ops:Array Oper}{i:Nat}{g:Option (Nat×Bool)}{K:TS->HS->Nat->Prop}(I:ops[i]? =some o)(hx:bL P o=some x)
 (S:jd st.n o.dst=true) (hg:bH ops o st.tmps=some true) (h:Bu P st.n ⟨o.dst,g,x⟩ st.tmps st.heap ctr K):qA P ops i (sK st.n K) st ctr:=by
 unfold qA;simp only[I];refine⟨S,?_⟩;simp only[hg];unfold Bu at h;split at h
 . rename_i f j Q;simp only at Q;subst Q;obtain⟨N,l,d,rfl,G⟩:=qN hx;simp only[vp]at h;split at h
   . rename_i A M;obtain⟨v,b,F,D,J⟩:=h;rw[dj,kJ,jy]at J
     have e:cK st.get o=some (f,A):=by
      unfold cK;rw[d];simp only[St.get,V.ofValue,M];rfl
     exact .inl ⟨f,A,e,G,v,b,F,D,by rw[BE];exact⟨rfl,J⟩⟩
   . exact h.elim
 . rename_i y j Q;simp only at Q;subst Q;obtain⟨t,N,l,d,rfl,rfl⟩:=o7 hx;simp only[vp]at h;split at h
   . rename_i A M;split at h
     . rename_i f a R;obtain⟨G,v,b,F,D,J⟩:=h;rw[dj,kJ,jy]at J;have z:st.get (.tmp t)=(eI.t t).get st.tmps:=(bW st (.tmp t)).symm
       have e:cK st.get o=some (f,a):=by
        unfold cK;rw[d];unfold fnX at R;split at R
        . rename_i c;simp only[ii,uu]at R;obtain⟨rfl,rfl⟩:=R;simp only[z,c,M]
        . rename_i c;simp only[ii,uu]at R;obtain⟨rfl,rfl⟩:=R;simp only[z,c,M,sF,wv]
        . rename_i c;simp only[ii,uu]at R;obtain⟨rfl,rfl⟩:=R;simp only[z,c,M,sF,wv]
        . rename_i c;simp only[z,c,M];exact R
        . simp at R
       exact .inl ⟨f,a,e,G,v,b,F,D,by rw[BE];exact⟨rfl,J⟩⟩
     . exact h.elim
   . exact h.elim
 . rename_i Z w Q;simp only at Q;subst Q;obtain⟨rfl,rfl⟩:=gG hx;obtain⟨v,b,r,J⟩:=h;rw[dj,kJ,jy]at J;exact .inr ⟨v,b,r o rfl rfl,by rw[BE];exact⟨rfl,J⟩⟩
 . simp only[kJ,jy]at h;obtain⟨O,v,n,Y,B⟩:=yh hx h;exact .inr ⟨v,n,jz Y,by rw[BE];exact⟨rfl,B⟩⟩
def Rel.lit{tm:TS}{hp:HS}{d:Nat}{b c:Bool}(h:Rel M A ρ F ⟨n,tm,hp⟩ a w)(R:find tm d=some (bV b))(G:b=c):Rel M A ρ F ⟨n,(d,bV c)::tm,hp⟩ a w:=by
 subst G;refine h.forget rfl (λt v z=>?_) (λ_ _ h=>h);simp only[aF]at z;split at z
 . rename_i e;subst e;rw[<-z];exact R
 . exact z
def XT.sound{ops:Array Oper}{o:Oper}{i n:Nat}{x:Ro}{g:Option (Nat×Bool)}{ctr:Nat}{tm:TS}{hp:HS}{K:TS->HS->Nat->Prop}{Q:Exit->Act->World->Prop}{H:Act->World->Prop}
 (I:ops[i]? =some o) (hx:bL P o=some x) (Y:(o.guard=none/\g=none)\/ ∃j e d,o.guard=some (j,e)/\(ops[j]?).bind (·.dst)=some d/\g=some (d,e))
 (h:XT P n ⟨o.dst,g,x⟩ tm hp ctr K) (J:Rel M A ρ (bJ ctr) ⟨n,tm,hp⟩ a w) (Z:∀z w',Post M A ρ w (sK n K) z w'->H z w'):wpOp P ops Q i H a w:=by
 unfold XT at h;split at h
 . exact h.elim
 . rename_i S;simp only at S
   have U:∀ {s:TS},Rel M A ρ (bJ ctr) ⟨n,s,hp⟩ a w->bH ops o s=some false->K (eJ s o.dst (.fB [])) hp ctr->wpOp P ops Q i H a w:=by
    intro s B L F;refine qA.sound (K:=sK n K) (ctr:=ctr) ?_ B Z;unfold qA;simp only[I];refine⟨S,?_⟩;simp only[L,iP];exact⟨rfl,F⟩
   have v:∀ {s:TS},Rel M A ρ (bJ ctr) ⟨n,s,hp⟩ a w->bH ops o s=some true->Bu P n ⟨o.dst,g,x⟩ s hp ctr K->wpOp P ops Q i H a w:=by
    intro s B L y;exact qA.sound (K:=sK n K) (ctr:=ctr) (Bu.wpOp (st:=⟨n,s,hp⟩) I hx S L y) B Z
   rcases Y with⟨N,rfl⟩|⟨j,e,d,N,r,rfl⟩
   . simp only at h;exact v J (by simp[bH,N]) h
   . have l:∀ {s:TS} {b:Bool},find s d=some (bV b)->bH ops o s=some (b==e):=by
      intro s b R;simp only[bH,N,r,R]
     simp only at h;split at h
     . rename_i b R;split at h
       . rcases mZ h with⟨G,h⟩|⟨G,h⟩
         . exact v (J.lit R G) lA h
         . exact U (J.lit R G) jP h
       . rcases mZ h with⟨G,h⟩|⟨G,h⟩
         . exact U (J.lit R G) lA h
         . exact v (J.lit R G) jP h
     . rename_i R;exact U J (by simp only[bH,N,r,R]) h
     . exact h.elim
def lP.sound{ops:Array Oper}{n:Nat}{K:TS->HS->Nat->Prop}{Q:Exit->Act->World->Prop}:∀ {l:List Oper} {rs:List oc} {k:Nat} {M A:agt} {ρ:Env} {tm:TS} {hp:HS} {a:Act} {w:World} {ctr:Nat},
 (∀j,ops[k+j]? =l[j]?)->bj P ops l=some rs->lP P n rs tm hp ctr K->Rel M A ρ (bJ ctr) ⟨n,tm,hp⟩ a w->(∀G w',Post M A ρ w (sK n K) G w'->Q .normal G w')->
 wpOps P ops Q (List.range' k l.length) a w
 | [],rs,k,M,A,ρ,tm,hp,a,w,ctr,U,r,h,J,s=>by
   simp only[bj,ii]at r;subst r;exact s _ _ (Post.here J ⟨rfl,h⟩)
 |o::l,rs,k,M,A,ρ,tm,hp,a,w,ctr,U,r,h,J,s=>by
  simp only[bj]at r;split at r
  . rename_i x v N hl';have I:ops[k]? =some o:=age
    have rest:∀ {g:Option (Nat×Bool)},rs=⟨o.dst,g,x⟩::v->((o.guard=none/\g=none)\/ ∃j e d,o.guard=some (j,e)/\(ops[j]?).bind (·.dst)=some d/\g=some (d,e))->wpOps P ops Q (List.range' k (l.length+1)) a w:=by
     intro g aqA c;subst aqA;simp only[lP]at h;rw[ae5,wpOps_cons];refine XT.sound I N c h J (λG w' b=>?_);obtain⟨st',z,D,Z,⟨O,Wb⟩,Y,B,y,F⟩:=b;subst O;exact lP.sound (k:=k+1) (λj=>by have:=U (j+1);rw[show k+1+j=k+(j+1) by omega,this];simp) hl' Wb Y (λR w2 H=>s _ _ (H.trans B y F))
    split at r
    . rename_i L;simp only[ii]at r;exact rest r.symm (.inl ⟨L,rfl⟩)
    . rename_i j e L;split at r
      . rename_i d S;simp only[ii]at r;exact rest r.symm (.inr ⟨j,e,d,L,S,rfl⟩)
      . simp at r
  . simp at r
def Kk(v:Value):(V.ofValue v).ids=[]:=by
 cases v with
 |agg R=>
  simp only[V.ofValue];split
  . simp only[V.ids,W.ids,ad8,aad];rintro c ⟨x,_,rfl⟩;rfl
  . rfl
 |_=>rfl
def vJ{a:Nat->Option (Nat×Nat)}:∀ {ps:List (Nat×Operand)} {l:List (Nat×Nat×eI)},sJ a ps=some l-> ∀p,p∈ps->eR p.2∈l.map (·.2.2)
 | [],l,h,p,F=>by simp at F
 |(i,x)::r,l,h,p,F=>by
  simp only[sJ]at h;split at h
  . rename_i S B A O Y;simp only[ii]at h;subst h;rcases aak.1 F with rfl|F
    . simp
    . simp only[aaq,aak];exact .inr (vJ Y p F)
  . simp at h
def D9(h:aZ P o=some r):(∀x,x∈o.op.operands->eR x∈r.lG\/ ∃f,x= .func f)/\(looks o.op=true->r.looks=true)/\(writes o.op=true->r.wrt=true):=by
 obtain⟨J,Z,w,v,B,R⟩:=o;cases Z
 case call c=>
  obtain⟨b,j,L⟩:=c;simp only[aZ]at h;split at h
  . split at h
    . rename_i x t N Q;split at h
      . simp only[ii]at h;subst h;refine⟨λy G=>?_,λ_=>rfl,λa=>by simp[writes]at a⟩;have:y∈j.toList:=Fs
        rw[N]at this;simp only[vv]at this;subst this;exact .inl YR
      . simp only[ii]at h;subst h;refine⟨λy G=>?_,λ_=>rfl,λa=>by simp[writes]at a⟩;have:y∈j.toList:=Fs
        rw[N]at this;simp only[vv]at this;subst this;exact .inl YR
      . simp at h
    . simp at h
  . split at h
    . rename_i x y N;simp only[ii]at h;subst h;refine⟨λz A=>?_,λ_=>rfl,λa=>by simp[writes]at a⟩;have:z∈j.toList:=afp
      rw[N]at this;simp only[aak,aa6,or_false]at this;rcases this with rfl|rfl
      . exact .inl YR
      . exact .inl YR
    . simp at h
  . split at h
    . rename_i x y N;simp only[ii]at h;subst h;refine⟨λz A=>?_,λ_=>rfl,λa=>by simp[writes]at a⟩;have:z∈j.toList:=afp
      rw[N]at this;simp only[aak,aa6,or_false]at this;rcases this with rfl|rfl
      . exact .inl YR
      . exact .inl YR
    . simp at h
  . split at h
    . rename_i s x t M N Q;split at h
      . split at h
        . split at h
          . simp only[ii]at h;subst h;refine⟨λy G=>?_,λ_=>rfl,λ_=>rfl⟩;have:y∈j.toList:=Fs
            rw[N]at this;simp only[aak,aa6,or_false]at this;rcases this with rfl|rfl
            . exact .inl YR
            . exact .inl YR
          . simp at h
        . simp at h
      . simp at h
    . simp at h
  . rename_i f;split at h
    . simp only[ii]at h;subst h;refine⟨λy G=>?_,λ_=>rfl,λa=>by simp[writes]at a⟩;simp only[Op.operands,Call.operands,Array.mem_append]at G;rcases G with G|G
      . exact .inr ⟨f,zq⟩
      . exact .inl (by simp only[Ro.lG,aad];exact⟨y,zq,rfl⟩)
    . simp at h
  . simp at h
 case build t g=>
  simp only[aZ]at h;split at h
  . split at h
    . simp only[jU]at h;obtain⟨l,U,rfl⟩:=h;refine⟨λy G=>?_,λU=>by simp[looks]at U,λa=>by simp[writes]at a⟩;simp[Op.operands]at G;obtain⟨i,I⟩:=G;exact .inl (vJ U (i,y) zh)
    . simp at h
  . split at h
    . simp only[jU]at h;obtain⟨l,U,rfl⟩:=h;refine⟨λy G=>?_,λU=>by simp[looks]at U,λa=>by simp[writes]at a⟩;simp[Op.operands]at G;obtain⟨i,I⟩:=G;exact .inl (vJ U (i,y) zh)
    . simp at h
  . simp at h
 case buildSlice t len g=>
  simp only[aZ]at h;split at h
  . split at h
    . split at h
      . simp only[ii]at h;subst h;refine⟨λy G=>?_,λU=>by simp[looks]at U,λa=>by simp[writes]at a⟩;simp[Op.operands]at G;obtain⟨i,I⟩:=G;refine .inl ?_;simp only[Ro.lG,acm,aad];exact⟨(i,y),zh,rfl⟩
      . simp at h
    . simp at h
  . simp at h
 case makeFunc S first Y=>
  cases S with
  |func f=>
   simp only[aZ]at h;split at h
   . rename_i D;simp only[ii]at h;subst h;simp only[LD,ae1]at D;obtain⟨rfl,_⟩:=D;refine⟨λy G=>?_,λU=>by simp[looks]at U,λa=>by simp[writes]at a⟩;refine .inl ?_;simp only[Ro.lG,aad];exact⟨y,by simpa[Op.operands]using G,rfl⟩
   . simp at h
  |_=>simp[aZ]at h
 case slice t x H I F=>
  cases F with
  |some m=>simp[aZ]at h
  |none=>
   simp only[aZ]at h;split at h
   . simp only[jU]at h;obtain⟨n,K,rfl⟩:=h;refine⟨λy G=>?_,λU=>by simp[looks]at U,λa=>by simp[writes]at a⟩;refine .inl ?_;cases H<;>cases I<;>simp[Op.operands,Ro.lG]at G⊢ <;>(first|(rcases G with rfl|rfl|rfl<;>simp)|(rcases G with rfl|rfl<;>simp)|(subst G;simp))
   . simp at h
 case unOp Z t x=>
  cases Z<;>simp only[aZ]at h<;>try (simp at h;done)
  all_goals
   simp only[ii]at h;subst h;refine⟨λy G=>?_,λU=>by simp[looks]at U,λa=>by simp[writes]at a⟩;simp[Op.operands]at G;subst G;simp[Ro.lG]
 all_goals
  simp only[aZ]at h
  repeat' (split at h)
  all_goals first
   |contradiction
   |(simp at h;done)
   |(simp only[ii]at h;subst h;refine⟨λy G=>?_,λU=>by first|rfl|(simp[looks]at U;done),λa=>by first|rfl|(simp[writes]at a;done)⟩
     first
      |(simp[Op.operands]at G;done)
      |(simp[Op.operands]at G;rcases G with rfl|rfl|rfl<;>simp[Ro.lG];done)
      |(simp[Op.operands]at G;rcases G with rfl|rfl<;>simp[Ro.lG];done)
      |(simp[Op.operands]at G;subst G;simp[Ro.lG];done))
   |(simp only[jU]at h;obtain⟨q,d,rfl⟩:=h;refine⟨λy G=>?_,λU=>by first|rfl|(simp[looks]at U;done),λa=>by first|rfl|(simp[writes]at a;done)⟩
     first
      |(simp[Op.operands]at G;done)
      |(simp[Op.operands]at G;rcases G with rfl|rfl|rfl<;>simp[Ro.lG];done)
      |(simp[Op.operands]at G;rcases G with rfl|rfl<;>simp[Ro.lG];done)
      |(simp[Op.operands]at G;subst G;simp[Ro.lG];done))
def XGo.step{g:Option (Nat×Bool)}{tm:TS}{hp:HS}{K:TS->HS->Nat->Prop}(hx:bL P o=some x)(h:XGo P ⟨o.dst,g,x⟩ tm hp ctr K):
 ∃v hp',(match cK (St.get ⟨n,tm,hp⟩) o with
  |some (g,us)=>enters P g=true/\gY P hp ctr g us v hp'
  |none=>aK P (St.get ⟨n,tm,hp⟩) hp ctr o=some (v,hp'))/\K (eJ tm o.dst v) hp' (ctr+4):=by
 unfold XGo at h;split at h
 . rename_i f j Q;simp only at Q;subst Q;obtain⟨N,l,d,rfl,G⟩:=qN hx;have L:=vp ⟨n,tm,hp⟩ N.toList;simp only at L;rw[L]at h;split at h
   . rename_i us M;obtain⟨v,hp',D,J⟩:=h;rw[dj,kJ,jy]at J
     have e:cK (St.get ⟨n,tm,hp⟩) o=some (f,us):=by
      unfold cK;rw[d];have R:St.get ⟨n,tm,hp⟩ (.func f)= .w (.one (.t (.val (.func (.func f) #[] #[])))):=rfl;simp only[R,M];rfl
     exact⟨v,hp',by rw[e];exact⟨G,D⟩,J⟩
   . exact h.elim
 . rename_i y j Q;simp only at Q;subst Q;obtain⟨t,N,l,d,rfl,rfl⟩:=o7 hx;have L:=vp ⟨n,tm,hp⟩ N.toList;simp only at L;rw[L]at h;split at h
   . rename_i us M;split at h
     . rename_i f a R;obtain⟨G,v,hp',D,J⟩:=h;rw[dj,kJ,jy]at J;have z:St.get ⟨n,tm,hp⟩ (.tmp t)=(eI.t t).get tm:=(bW ⟨n,tm,hp⟩ (.tmp t)).symm
       have e:cK (St.get ⟨n,tm,hp⟩) o=some (f,a):=by
        unfold cK;rw[d];unfold fnX at R;split at R
        . rename_i c;simp only[ii,uu]at R;obtain⟨rfl,rfl⟩:=R;simp only[z,c,M]
        . rename_i c;simp only[ii,uu]at R;obtain⟨rfl,rfl⟩:=R;simp only[z,c,M,sF,wv]
        . rename_i c;simp only[ii,uu]at R;obtain⟨rfl,rfl⟩:=R;simp only[z,c,M,sF,wv]
        . rename_i c;simp only[z,c,M];exact R
        . simp at R
       exact⟨v,hp',by rw[e];exact⟨G,D⟩,J⟩
     . exact h.elim
   . exact h.elim
 . rename_i Z w Q;simp only at Q;subst Q;obtain⟨rfl,rfl⟩:=gG hx;obtain⟨v,hp',⟨e,H⟩,J⟩:=h;rw[dj,kJ,jy]at J
   have b:cK (St.get ⟨n,tm,hp⟩) o=none:=by
    have:=e (St.get ⟨n,tm,hp⟩);unfold cK at this⊢;exact this
   exact⟨v,hp',by rw[b];exact H n o rfl rfl,J⟩
 . rename_i r s;simp only[kJ,jy]at h;obtain⟨O,v,hp',Y,B⟩:=yh (st:=⟨n,tm,hp⟩) hx h;exact⟨v,hp',by rw[O];exact Y,B⟩
def GY(h:bL P o=some r):(∀x,x∈o.op.operands->eR x∈r.lG\/ ∃f,x= .func f)/\(looks o.op=true->r.looks=true)/\(writes o.op=true->r.wrt=true):=by
 unfold bL at h;split at h
 . rename_i B g;replace g:=fC g;simp only[ii]at h;subst h;exact D9 g
 . simp only[ii]at h;subst h;rcases pW o with⟨t,j,l,d,e⟩|e
   . rw[e,d];refine⟨λx N=> .inl ?_,λ_=>rfl,λa=>by simp[writes]at a⟩;have b:x= .tmp t\/x∈j:=by simpa[Op.operands,Call.operands]using N
     simp only[Ro.lG,aak,aad];rcases b with rfl|b
     . exact .inl rfl
     . exact .inr ⟨x,by simpa using b,rfl⟩
   . rw[e];refine⟨λx N=> .inl ?_,λU=>U,λa=>a⟩;simp only[Ro.lG,aad];exact⟨x,iL,rfl⟩
def FL{ops:Array Oper}{g:Option (Nat×Bool)}{tm:TS}{hp:HS}(hx:bL P o=some x)
 (c:(o.guard=none/\g=none)\/ ∃j e d,o.guard=some (j,e)/\(ops[j]?).bind (·.dst)=some d/\g=some (d,e)):
 (fz ⟨o.dst,g,x⟩ tm ctr).dst=o.dst/\(∀t,t∈names ops o->t∈ (fz ⟨o.dst,g,x⟩ tm ctr).nm)/\(∀k,k∈lZ (St.get ⟨n,tm,hp⟩) o->k∈ (fz ⟨o.dst,g,x⟩ tm ctr).rd)/\
   (∀k,k∈zQ (St.get ⟨n,tm,hp⟩) ctr o->k∈ (fz ⟨o.dst,g,x⟩ tm ctr).wr):=by
 obtain⟨O,Y,B⟩:=GY hx
 have F:∀k,k∈lZ (St.get ⟨n,tm,hp⟩) o->k∈ (fz ⟨o.dst,g,x⟩ tm ctr).rd:=by
  intro k Z;simp only[lZ]at Z;split at Z
  . rename_i U;simp only[fz,Y U,if_true,abg];simp only[abg]at Z;obtain⟨y,G,b⟩:=Z;rw[<-bW]at b;rcases O y zq with hm|⟨f,rfl⟩
    . exact⟨eR y,hm,b⟩
    . simp only[eR,eI.get,Kk]at b;simp at b
  . simp at Z
 refine⟨rfl,λt Q=>?_,F,λk Z=>?_⟩
 . simp only[names,yl,aau]at Q;simp only[fz,yl,aau];rcases Q with⟨y,G,h⟩|Q
   . left
     cases y with
     |tmp M=>
      simp only[ii]at h;subst h;rcases O (.tmp M) zq with hm|⟨f,hf⟩
      . exact⟨.t M,hm,rfl⟩
      . simp at hf
     |_=>simp at h
   . right;rcases c with⟨D,rfl⟩|⟨j,e,d,D,S,rfl⟩
     . simp[D]at Q
     . simp only[D,S]at Q;simpa using Q
 . simp only[zQ,yl]at Z;simp only[fz,yl];rcases Z with Z|Z
   . exact .inl Z
   . split at Z
     . rename_i a;right;rw[if_pos (B a)];exact F k Z
     . simp at Z
def XS.step{ops:Array Oper}{o:Oper}{n ctr:Nat}{x:Ro}{g:Option (Nat×Bool)}{tm:TS}{hp:HS}{K:kT->TS->HS->Nat->Prop}
 (hx:bL P o=some x) (F:(o.guard=none/\g=none)\/ ∃j r d,o.guard=some (j,r)/\(ops[j]?).bind (·.dst)=some d/\g=some (d,r)) (h:XS P n ⟨o.dst,g,x⟩ tm hp ctr K):
 ∃tm' v hp',(∀t,find tm' t=find tm t)/\ji P ops o n tm' hp ctr v hp'/\K (fz ⟨o.dst,g,x⟩ tm' ctr) (eJ tm' o.dst v) hp' (ctr+4):=by
 unfold XS at h;split at h
 . exact h.elim
 . rename_i S;simp only at S
   have a:∀ {tm':TS},(∀t,find tm' t=find tm t)->bH ops o tm'=some true->XGo P ⟨o.dst,g,x⟩ tm' hp ctr (K (fz ⟨o.dst,g,x⟩ tm' ctr))->
    ∃tm' v hp',(∀t,find tm' t=find tm t)/\ji P ops o n tm' hp ctr v hp'/\K (fz ⟨o.dst,g,x⟩ tm' ctr) (eJ tm' o.dst v) hp' (ctr+4):=by
    intro tm' H D y;obtain⟨v,hp',O,Y⟩:=XGo.step (n:=n) hx y;exact⟨tm',v,hp',H,⟨S,by rw[D];exact O⟩,Y⟩
   have U:∀ {tm':TS},(∀t,find tm' t=find tm t)->bH ops o tm'=some false->K (fz ⟨o.dst,g,x⟩ tm' ctr) (eJ tm' o.dst (.fB [])) hp (ctr+4)->
    ∃tm' v hp',(∀t,find tm' t=find tm t)/\ji P ops o n tm' hp ctr v hp'/\K (fz ⟨o.dst,g,x⟩ tm' ctr) (eJ tm' o.dst v) hp' (ctr+4):=by
    intro tm' H D J;exact⟨tm',.fB [],hp,H,⟨S,by rw[D];exact⟨rfl,rfl⟩⟩,J⟩
   rcases F with⟨N,rfl⟩|⟨j,r,d,N,Q,rfl⟩
   . simp only at h;exact a (λ_=>rfl) (by simp[bH,N]) h
   . have l:∀ {tm':TS} {b:Bool},find tm' d=some (bV b)->bH ops o tm'=some (b==r):=by
      intro tm' b R;simp only[bH,N,Q,R]
     simp only at h;split at h
     . rename_i b R
       have lit:∀ {c:Bool},b=c-> ∀t,find ((d,bV c)::tm) t=find tm t:=by
        intro c G t;subst G;simp only[aF];split
        . rename_i e;subst e;exact R.symm
        . rfl
       split at h
       . rcases mZ h with⟨G,h⟩|⟨G,h⟩
         . exact a (lit G) lA h
         . exact U (lit G) jP h
       . rcases mZ h with⟨G,h⟩|⟨G,h⟩
         . exact U (lit G) lA h
         . exact a (lit G) jP h
     . rename_i R;exact U (λ_=>rfl) (by simp only[bH,N,Q,R]) h
     . exact h.elim
def yj.trace{ops:Array Oper}{n base:Nat}{K:List kT->TS->HS->Nat->Prop}:∀ {l:List Oper} {rs:List oc} {k:Nat} {B:List kT} {tm:TS} {hp:HS},(∀j,ops[k+j]? =l[j]?)->bj P ops l=some rs->
 B.length=k->yj P n rs B tm hp (base+4 * k) K->
 ∃ (tmT:Nat->TS) (hpT:Nat->HS) (v:Nat->V) (fs:List kT),K fs (tmT (k+l.length)) (hpT (k+l.length)) (base+4 * (k+l.length))/\(∀i,i < k->fs[i]? =B[i]?)/\(∀t,find (tmT k) t=find tm t)/\hpT k=hp/\
  ∀j o,l[j]? =some o->ji P ops o n (tmT (k+j)) (hpT (k+j)) (base+4 * (k+j)) (v (k+j)) (hpT (k+j+1))/\(∀t,find (tmT (k+j+1)) t=find (eJ (tmT (k+j)) o.dst (v (k+j))) t)/\
   ∃f,fs[k+j]? =some f/\f.dst=o.dst/\(∀t,t∈names ops o->t∈f.nm)/\(∀q,q∈lZ (St.get ⟨n,tmT (k+j),hpT (k+j)⟩) o->q∈f.rd)/\(∀q,q∈zQ (St.get ⟨n,tmT (k+j),hpT (k+j)⟩) (base+4 * (k+j)) o->q∈f.wr)
 | [],rs,k,B,tm,hp,U,r,Z,h=>by
   simp only[bj,ii]at r;subst r;exact⟨λ_=>tm,λ_=>hp,λ_=> .undef,B,by simpa[yj]using h,λ_ _=>rfl,λ_=>rfl,rfl,λj o Q=>by simp at Q⟩
 |o::l,rs,k,B,tm,hp,U,r,Z,h=>by
  simp only[bj]at r;split at r
  . rename_i x A N a;have I:ops[k]? =some o:=age
    have L: ∃g,rs=⟨o.dst,g,x⟩::A/\((o.guard=none/\g=none)\/ ∃j e d,o.guard=some (j,e)/\(ops[j]?).bind (·.dst)=some d/\g=some (d,e)):=by
     split at r
     . rename_i D;simp only[ii]at r;exact⟨_,r.symm,.inl ⟨D,rfl⟩⟩
     . rename_i j e D;split at r
       . rename_i d S;simp only[ii]at r;exact⟨_,r.symm,.inr ⟨j,e,d,D,S,rfl⟩⟩
       . simp at r
    obtain⟨g,G,Y⟩:=L;clear r;subst G
    . skip
      simp only[yj]at h;obtain⟨s,M,b,H,z,J⟩:=XS.step (ops:=ops) N Y h;have R:=FL (ops:=ops) (n:=n) (ctr:=base+4 * k) (tm:=s) (hp:=hp) N Y;rw[show base+4 * k+4=base+4 * (k+1) by omega]at J;obtain⟨tmT,hpT,v,fs,q1,q2,q3,q4,q5⟩:=yj.trace (k:=k+1) (λj=>by have:=U (j+1);rw[show k+1+j=k+(j+1) by omega,this];simp) a ago J
      have w:fs[k]? =some (fz ⟨o.dst,g,x⟩ s (base+4 * k)):=by
       rw[q2 k aa,aai aa,Z];simp
      refine⟨λi=>if i=k then s else tmT i,λi=>if i=k then hp else hpT i,λi=>if i=k then M else v i,fs,?_,?_,?_,?_,?_⟩
      . have F:k+(o::l).length=k+1+l.length:=by simp;omega
        have y:¬k+1+l.length=k:=aa
        simp only[F,y,if_false];exact q1
      . intro i O;rw[q2 i aa,aaf aa]
      . intro t;simp only[if_true];exact H t
      . simp
      . intro j c Q
        cases j with
        |zero=>
         simp only[yq,ii]at Q;subst Q;have y:¬k+1=k:=aa
         simp only[ace,if_true,y,if_false,q4];exact⟨z,λt=>q3 t,_,w,R⟩
        |succ j=>
         have:=q5 j c af5;have F:¬k+(j+1)=k:=aa
         have y:¬k+(j+1)+1=k:=aa
         simp only[F,y,if_false];rw[show k+(j+1)=k+1+j by omega];exact this
  . simp at r
def mY:∀ {b:List (List Nat)} {k:Nat},BM k b=true-> ∀i es,b[i]? =some es-> ∀e,e∈es->e < k+i
 | [],k,h,i,es,I,e,H=>by simp at I
 |x::r,k,h,i,es,I,e,H=>by
  simp only[BM,LD]at h
  cases i with
  |zero=>
   simp only[yq,ii]at I;subst I;have:=yt.1 h.1 e H;simpa using this
  |succ i=>
   have:=mY h.2 i es zh e H;omega
def Wp.L3{c:Code}{Q:Exit->St->Nat->Prop}{tm':TS}{hp':HS}{c':Nat}(y:eo st.tmps st.heap ctr tm' hp' c')(h:Wp P c Q ⟨st.n,tm',hp'⟩ c'):Wp P c Q st ctr:=by
 intro M A ρ a w J;obtain⟨Z,z,v,H,D⟩:=y M A ρ st.n a w J;exact wp_mono (h M Z z a w v) (λe G j F=>F.trans (dA.refl _ _) H D)
def Wp.post{c:Code}{Q d:Exit->St->Nat->Prop}(h:Wp P c Q st ctr)
 (hq:∀e st' c',Q e st' c'->d e st' c'\/ ∃tm2 hp2 K,eo st'.tmps st'.heap c' tm2 hp2 K/\d e ⟨st'.n,tm2,hp2⟩ K):Wp P c d st ctr:=by
 intro M A ρ a w J;refine wp_mono (h M A ρ a w J) ?_;rintro e G j ⟨st',c',l,s,O,Y,B,g,U⟩;rcases hq e st' c' O with O|⟨tm2,hp2,K,y,O⟩
 . exact⟨st',c',l,s,O,Y,B,g,U⟩
 . obtain⟨Z,z,v,H,D⟩:=y M l s st'.n G j Y;exact⟨_,K,Z,z,O,v,B,g.trans H,U.trans D B.size⟩
def X.sound{n:Nat}:∀ {c:Code} {r:Rc},aT P c=some r-> ∀ {Q:Exit->TS->HS->Nat->Prop} {tm:TS} {hp:HS} {ctr:Nat},X P n r Q tm hp ctr->Wp P c (λe=>sK n (Q e)) ⟨n,tm,hp⟩ ctr:=by
 intro c
 induction c with
 |skip=>
  intro r J Q tm hp ctr h;simp only[aT,ii]at J;subst J;exact Wp.skip ⟨rfl,h⟩
 |ret=>
  intro r J Q tm hp ctr h;simp only[aT,ii]at J;subst J;exact Wp.ret ⟨rfl,h⟩
 |exit id=>
  intro r J Q tm hp ctr h;simp only[aT,ii]at J;subst J;exact Wp.exit ⟨rfl,h⟩
 |seq x y VJ VI=>
  intro r J Q tm hp ctr h;simp only[aT]at J;split at J
  . rename_i rx ry N Z;simp only[ii]at J;subst J;simp only[X]at h;refine Wp.seq ((VJ N h).mono ?_);rintro e st' c' ⟨O,Y⟩;subst O
    cases e with
    |normal=>exact VI Z Y
    |_=>exact⟨rfl,Y⟩
  . simp at J
 |cond c x y VJ VI=>
  intro r J Q tm hp ctr h;simp only[aT]at J;split at J
  . rename_i rx ry N Z;simp only[ii]at J;subst J;simp only[X]at h;split at h
    . rename_i b G;have hb':((⟨n,tm,hp⟩:St).get c).jT =some b:=by rw[<-bW];exact G
      refine Wp.cond hb' ?_;rcases mZ h with⟨rfl,h⟩|⟨rfl,h⟩
      . exact VJ N h
      . exact VI Z h
    . exact h.elim
  . simp at J
 |block id b z=>
  intro r J Q tm hp ctr h;simp only[aT]at J;split at J
  . rename_i rb G;simp only[ii]at J;subst J;simp only[X]at h;refine Wp.block ((z G h).mono ?_);rintro e st' c' ⟨O,Y⟩
    cases e with
    |exit id'=>
     simp only[yF]at Y;simp only[tA];split
     . rename_i e;rw[if_pos e]at Y;exact⟨O,Y⟩
     . rename_i e;rw[if_neg e]at Y;exact⟨O,Y⟩
    |_=>exact⟨O,Y⟩
  . simp at J
 |loop b z=>
  intro r J Q tm hp ctr h;simp only[aT]at J;split at J
  . rename_i rb G;simp only[ii]at J;subst J;simp only[X]at h;obtain⟨I,ou,CU⟩:=h;obtain⟨vB,oE,c0,YU,m,hI⟩:=ou.get;refine Wp.L3 (st:=⟨n,tm,hp⟩) YU ?_;refine Wp.loop (λm=>sK n (I m)) ?_ m _ _ ⟨rfl,hI⟩;rintro m st' c' ⟨O,Y⟩;obtain⟨n',tm',hp'⟩:=st';simp only at O Y;subst O;refine Wp.post (z G (CU m tm' hp' c' Y)) ?_;rintro e st2 c2 ⟨B,g⟩
    cases e with
    |normal=>
     obtain⟨tm3,YZ,c3,hw3,m',hm',hI'⟩:=bA.get g;exact .inr ⟨tm3,YZ,c3,hw3,m',hm',B,hI'⟩
    |_=>exact .inl ⟨B,g⟩
  . simp at J
 |region id ops d=>
  intro r J Q tm hp ctr h
  cases d with
  |true=>
   simp only[aT]at J;split at J
   . rename_i l U;split at J
     . rename_i D;simp only[LD]at D;simp only[ii]at J;subst J;simp only[X]at h;intro M A ρ a w cP;obtain⟨tmT,hpT,v,fs,⟨q0,q1⟩,_,q3,q4,q5⟩:=yj.trace (P:=P) (ops:=ops) (n:=n) (base:=ctr) (k:=0) (λj=>by simp) U rfl bc;simp only[aas]at q1 q5;have Kp:Rel M A ρ (bJ ctr) ⟨n,tmT 0,hpT 0⟩ a w:=cP.forget rfl (λt u L=>by rw[<-q3 t];exact L) (λk b G=>by rw[q4]at G;exact G);refine Dm D.1 (λi o S=>q5 i o aA) (λi o S e H=>?_) q0 Kp ?_
       . have:=mY D.2 i (bP o) (by simp[S]) e H;omega
       . rintro K s ⟨st',c',R,F,⟨rfl,rfl⟩,Y⟩;exact⟨_,_,R,F,⟨rfl,by simpa using q1⟩,Y⟩
     . simp at J
   . simp at J
  |false=>
   simp only[aT]at J;split at J
   . rename_i l U;simp only[ii]at J;subst J;simp only[X]at h;intro M A ρ a w cP;refine wp_region ?_;have:=lP.sound (P:=P) (ops:=ops) (k:=0) (l:=ops.toList) (Q:=λe K s=>Post M A ρ w (sK n (Q e)) K s) (λj=>by simp) U h cP (λ_ _ hp=>hp);rw[aen];simpa using this
   . simp at J
 |_=>intro r J;simp[aT]at J
end Go.aW
namespace Go.aW
open Go
inductive Pn where
 |e
 |o (p:Pn)
 |i (p:Pn)
 deriving DecidableEq
def Vw:Nat->Nat->Pn
 |0,_=> .e
 |f+1,n=>match n with
  |0=> .e
  |m+1=>match m % 2 with
   |0=> .o (Vw f (m / 2))|_=> .i (Vw f (m / 2))
def key(n:Nat):Pn:=Vw n n
def Pn.dec:Pn->Nat
 | .e=>0| .o p=>2 * p.dec+1| .i p=>2 * p.dec+2
def xp:∀ (f n:Nat),n<=f->(Vw f n).dec=n
 |0,n,h=>by
  have:n=0:=aa
  subst this;rfl
 |f+1,0,_=>rfl
 |f+1,m+1,h=>by
  simp only[Vw];have c:=xp f (m / 2) aa;split
  . rename_i z;simp only[Pn.dec,c];omega
  . rename_i z;simp only[Pn.dec,c];have:m % 2≠0:=z;omega
variable{a b nid:Nat}{α:Sort _}{L:TS}
def key_inj(h:key a=key b):a=b:=by
 have O:=xp a a (ww _);have Y:=xp b b (ww _);unfold key at h;rw[h,Y]at O;exact O.symm
inductive Tr where
 |nil
 |node (v:Option V) (l r:Tr)
def Tr.get:Tr->Pn->Option V
 | .nil,_=>none
 | .node v l r,p=>match p with
   | .e=>v| .o q=>l.get q| .i q=>r.get q
def Tr.set:Pn->Tr->V->Tr
 | .e,t,x=>match t with
   | .nil=> .node (some x) .nil .nil| .node _ l r=> .node (some x) l r
 | .o p,t,x=>match t with
   | .nil=> .node none (Tr.set p .nil x) .nil| .node v l r=> .node v (Tr.set p l x) r
 | .i p,t,x=>match t with
   | .nil=> .node none .nil (Tr.set p .nil x)| .node v l r=> .node v l (Tr.set p r x)
def Tr.put{α:Type}:Pn->Tr->V->(Tr->α)->α
 | .e,t,x,k=>match t with
   | .nil=>k (.node (some x) .nil .nil)| .node _ l r=>k (.node (some x) l r)
 | .o p,t,x,k=>match t with
   | .nil=>Tr.put p .nil x λl=>k (.node none l .nil)| .node v l r=>Tr.put p l x λl=>k (.node v l r)
 | .i p,t,x,k=>match t with
   | .nil=>Tr.put p .nil x λr=>k (.node none .nil r)| .node v l r=>Tr.put p r x λr=>k (.node v l r)
def Tr.put_eq{α:Type}:∀ (p:Pn) (t:Tr) (x:V) (k:Tr->α),Tr.put p t x k=k (Tr.set p t x)
 | .e,t,x,k=>by cases t<;>rfl
 | .o p,t,x,k=>by cases t<;>simp only[Tr.put,Tr.set,Tr.put_eq p]
 | .i p,t,x,k=>by cases t<;>simp only[Tr.put,Tr.set,Tr.put_eq p]
def Tr.BL(q:Pn):Tr.nil.get q=none:=by cases q<;>rfl
def Tr.H8:∀ (p:Pn) (t:Tr) (x:V) (q:Pn),(Tr.set p t x).get q=if q=p then some x else t.get q
 | .e,t,x,q=>by cases t<;>cases q<;>simp[Tr.set,Tr.get]
 | .o p,t,x,q=>by cases t<;>cases q<;>simp[Tr.set,Tr.get,Tr.H8 p,Tr.BL]
 | .i p,t,x,q=>by cases t<;>cases q<;>simp[Tr.set,Tr.get,Tr.H8 p,Tr.BL]
def ir(tr:Tr)(L:TS):Prop:= ∀t,find L t=tr.get (key t)
def o8{α:Type}(tm:Tr)(dst:Option Nat)(v:V)(k:Tr->α):α:=
 match dst with
 |some d=>Tr.put (key d) tm v k|none=>k tm
def Cl(tm:Tr)(dst:Option Nat)(v:V):Tr:=
 match dst with
 |some d=>Tr.set (key d) tm v|none=>tm
def kK{α:Type}(tm:Tr)(dst:Option Nat)(v:V)(k:Tr->α):o8 tm dst v k=k (Cl tm dst v):=by
 cases dst<;>simp[o8,Cl,Tr.put_eq]
def ir.put{tr:Tr}(h:ir tr L)(dst:Option Nat)(v:V):ir (Cl tr dst v) (eJ L dst v):=by
 intro t
 cases dst with
 |none=>exact h t
 |some d=>
  simp only[Cl,eJ,Tr.H8,aF]
  by_cases e:d=t
  . subst e;simp
  . have:¬key t=key d:=λN=>e (key_inj N).symm;simp[e,this,h t]
def gT(tm:Tr):eI->V
 | .t n=>(tm.get (key n)).getD .undef| .c v=>v
def qp{tr:Tr}(h:ir tr L):gT tr=λx=>x.get L:=by
 funext x
 cases x with
 |t n=>simp only[gT,eI.get,h n]
 |c v=>rfl
def tR{α:Sort _}(n:Nat)(k:Nat->α):α:=
 match n with
 |0=>k 0|m+1=>k (Nat.succ m)
def fu(n:Nat)(k:Nat->α):tR n k=k n:=by cases n<;>rfl
def Sy{α:Sort _}(n:Int)(k:Int->α):α:=
 match n with
 | .ofNat m=>tR m λm=>k (.ofNat m)| .negSucc m=>tR m λm=>k (.negSucc m)
def Ng(n:Int)(k:Int->α):Sy n k=k n:=by cases n<;>simp[Sy,fu]
def Sz{α:Sort _}(b:Bool)(k:Bool->α):α:=
 match b with
 |true=>k true|false=>k false
def vY(b:Bool)(k:Bool->α):Sz b k=k b:=by cases b<;>rfl
def ki{α:Type}(b:Bool)(x y:α):α:=
 match b with
 |true=>x|false=>y
def cj{b:Bool}{x:Bool}(h:ki b x false=true):b=true/\x=true:=by cases b<;>simp_all[ki]
def nth{α:Type}:List α->Nat->Option α
 | [],_=>none
 |x::r,n=>match n with
  |0=>some x|m+1=>nth r m
def qQ{α:Type}:∀ (l:List α) (n:Nat),nth l n=l[n]?
 | [],n=>by simp[nth]
 |x::r,0=>by simp[nth]
 |x::r,n+1=>by simp[nth,qQ r n]
def pD(h:Nat.blt a b=true):a < b:=abp h
def apI(h:a < b):Nat.blt a b=true:=Nat.ble_eq_true_of_le h
def QB(a b:Nat):Nat.blt a b=decide (a < b):=by
 by_cases h:a < b
 . rw[apI h,decide_eq_true h]
 . rw[decide_eq_false h]
   cases h':Nat.blt a b with
   |false=>rfl
   |true=>exact absurd (pD h') h
def s0(k:IntKind)(n:Int):Int:=
 match k with
 | .i64=>match n with
   | .ofNat m=>ki (Nat.blt m 9223372036854775808) (.ofNat m) (IntKind.wrap .i64 (.ofNat m))| .negSucc m=>ki (Nat.blt m 9223372036854775808) (.negSucc m) (IntKind.wrap .i64 (.negSucc m))
 | .u64=>match n with
   | .ofNat m=> .ofNat (m % 18446744073709551616)| .negSucc m=>IntKind.wrap .u64 (.negSucc m)
 | .u32=>match n with
   | .ofNat m=> .ofNat (m % 4294967296)| .negSucc m=>IntKind.wrap .u32 (.negSucc m)
 |k=>k.wrap n
def aB{n:Int}(z: -9223372036854775808<=n)(O:n < 9223372036854775808):IntKind.i64.wrap n=n:=by
 simp[IntKind.wrap,IntKind.bits,IntKind.signed];omega
def Jz(k:IntKind)(b:Bool)(n:Int)(h:b=true->k.wrap n=n):ki b n (k.wrap n)=k.wrap n:=by
 cases b with
 |false=>rfl
 |true=>exact(h rfl).symm
def sZ(k:IntKind)(n:Int):s0 k n=k.wrap n:=by
 unfold s0;split
 . split
   . rename_i m;refine Jz .i64 _ _ λh=>aB ?_ ?_
     . have:=pD h;simp only[acy];omega
     . have:=pD h;simp only[acy];omega
   . rename_i m;refine Jz .i64 _ _ λh=>aB ?_ ?_
     . have:=pD h;omega
     . have:=pD h;omega
 . split
   . rename_i m;simp only[IntKind.wrap,IntKind.bits,IntKind.signed,Bool.false_and,acy];simp
   . rfl
 . split
   . rename_i m;simp only[IntKind.wrap,IntKind.bits,IntKind.signed,Bool.false_and,acy];simp
   . rfl
 . rfl
def Af(a b:Int):Bool:=
 match a,b with
 | .ofNat x,.ofNat y=>Nat.blt x y| .ofNat _,.negSucc _=>false| .negSucc _,.ofNat _=>true| .negSucc x,.negSucc y=>Nat.blt y x
def MJ(a b:Int):Af a b=decide (a < b):=by
 cases a with
 |ofNat x=>
  cases b with
  |ofNat y=>simp only[Af,QB];exact decide_eq_decide.2 agf
  |negSucc y=>simp only[Af];exact(decide_eq_false agf).symm
 |negSucc x=>
  cases b with
  |ofNat y=>simp only[Af];exact(decide_eq_true agf).symm
  |negSucc y=>simp only[Af,QB];exact decide_eq_decide.2 aa
def eqI(a b:Int):Bool:=
 match a,b with
 | .ofNat x,.ofNat y=>Nat.beq x y| .negSucc x,.negSucc y=>Nat.beq x y|_,_=>false
def Xb(a b:Int):eqI a b=(a==b):=by
 rw[adq,beq_iff_eq];cases a<;>cases b<;>simp[eqI]
 omega
def MK:IntKind->Nat
 | .i8=>0| .i16=>1| .i32=>2| .i64=>3| .u8=>4| .u16=>5| .u32=>6| .u64=>7
def O5{k P:IntKind}(h:Nat.beq (MK k) (MK P)=true):k=P:=by
 cases k<;>cases P<;>first|rfl|simp[MK]at h
def aoG(n:Nat):Int:= .ofNat (2 ^ n)
def abN(n:Nat):aoG n=(2:Int) ^ n:=by simp[aoG]
def anK(a:Int)(n:Nat):Int:=
 match a with
 | .ofNat m=> .ofNat (m / 2 ^ n)|a=>a.fdiv (2 ^ n)
def aaK(a:Int)(n:Nat):anK a n=a.fdiv (2 ^ n):=by
 cases a with
 |ofNat m=>
  simp only[anK];rw[adO _ (by exact_mod_cast aa7 _)];simp
 |negSucc m=>rfl
def orI(k:IntKind)(a b:Int):Int:=
 match a,b with
 | .ofNat x,.ofNat y=>ki (Nat.blt x (2 ^ k.bits)&&Nat.blt y (2 ^ k.bits)) (s0 k (.ofNat (x|||y))) (k.wrap (BitVec.ofInt k.bits (.ofNat x)|||BitVec.ofInt k.bits (.ofNat y)).toNat)|a,b=>k.wrap (BitVec.ofInt k.bits a|||BitVec.ofInt k.bits b).toNat
def oA{w x:Nat}(h:x < 2 ^ w):(BitVec.ofInt w (Int.ofNat x)).toNat=x:=by
 rw[ad9];show((x:Int) % ((2 ^ w:Nat):Int)).toNat=x;rw[<-Int.natCast_emod,aa0,adT h]
def aoT(k:IntKind)(a b:Int):orI k a b=k.wrap (BitVec.ofInt k.bits a|||BitVec.ofInt k.bits b).toNat:=by
 cases a<;>cases b<;>simp only[orI]
 rename_i x y
 cases h:(Nat.blt x (2 ^ k.bits)&&Nat.blt y (2 ^ k.bits))with
 |false=>rfl
 |true=>
  simp only[LD,Nat.blt,abv]at h;simp only[ki,sZ,aea];rw[oA aa,oA aa];rfl
def atC(k:IntKind)(a b:Int):Int:=
 match a,b with
 | .ofNat x,.ofNat y=>ki (Nat.blt x (2 ^ k.bits)&&Nat.blt y (2 ^ k.bits)) (s0 k (.ofNat (x&&& y))) (k.wrap (BitVec.ofInt k.bits (.ofNat x)&&& BitVec.ofInt k.bits (.ofNat y)).toNat)|a,b=>k.wrap (BitVec.ofInt k.bits a&&& BitVec.ofInt k.bits b).toNat
def ahG(k:IntKind)(a b:Int):atC k a b=k.wrap (BitVec.ofInt k.bits a&&& BitVec.ofInt k.bits b).toNat:=by
 cases a<;>cases b<;>simp only[atC]
 rename_i x y
 cases h:(Nat.blt x (2 ^ k.bits)&&Nat.blt y (2 ^ k.bits))with
 |false=>rfl
 |true=>
  simp only[LD,Nat.blt,abv]at h;simp only[ki,sZ,BitVec.toNat_and];rw[oA aa,oA aa];rfl
def Hh{α:Type}(A:α)(g:eI->V):List (Nat×eI)->(List (Nat×W)->α)->α
 | [],k=>k []
 |(i,x)::r,k=>match g x with
  | .w u=>Hh A g r λl=>k ((i,u)::l)|_=>A
def Fp{tm:TS}:∀ {ps:List (Nat×eI)} {k:List (Nat×W)->Bool},Hh false (λx=>x.get tm) ps k=true-> ∃l,yV tm ps=some l/\k l=true
 | [],k,h=>⟨[],rfl,h⟩
 |(i,x)::r,k,h=>by
  simp only[Hh]at h;split at h
  . rename_i u L;obtain⟨l,O,Y⟩:=Fp h;exact⟨_,by simp only[yV,L,O],Y⟩
  . simp at h
def PY{α:Type}(A:α)(g:eI->V):Lc->List (Nat×Nat×eI)->(Lc->α)->α
 |cells,[],k=>k cells
 |cells,(S,B,x)::z,k=>
  match g x with
  | .w u=>ki (Nat.beq (cellsOf u).length B&&Nat.ble (S+B) cells.length) (jG (bt cells S (cellsOf u)) λR=>PY A g R z k) A|_=>A
def KJ{tm:TS}:∀ {ps:List (Nat×Nat×eI)} {b:Lc} {k:Lc->Bool},PY false (λx=>x.get tm) b ps k=true-> ∃l,Dh tm b ps=some l/\k l=true
 | [],b,k,h=>⟨b,rfl,h⟩
 |(S,B,x)::r,b,k,h=>by
  simp only[PY]at h;split at h
  . rename_i u L;obtain⟨D,h⟩:=cj h;rw[cM]at h;simp only[LD,adr,abv]at D;obtain⟨l,O,Y⟩:=KJ h;exact⟨l,by simp only[Dh,L,if_pos D,O],Y⟩
  . simp at h
def Qy{α:Type}(A:α)(g:eI->V):List eI->(List (Nat×Nat×Nat×Nat)->α)->α
 | [],k=>k []
 |x::r,k=>match g x with
  | .w (.one (.ptr id N i j))=>Qy A g r λl=>k ((id,N,i,j)::l)|_=>A
def Lj{tm:TS}:∀ {ps:List eI} {k:List (Nat×Nat×Nat×Nat)->Bool},Qy false (λx=>x.get tm) ps k=true-> ∃l,F7 tm ps=some l/\k l=true
 | [],k,h=>⟨[],rfl,h⟩
 |x::r,k,h=>by
  simp only[Qy]at h;split at h
  . rename_i id sz i j hu;obtain⟨l,O,Y⟩:=Lj h;exact⟨_,by simp only[F7,hu,O],Y⟩
  . simp at h
def wsG{α:Type}(A:α)(g:eI->V):List eI->(Lw->α)->α
 | [],k=>k []
 |x::r,k=>match g x with
  | .w u=>wsG A g r λl=>k (u::l)|_=>A
def BV{tm:TS}:∀ {ps:List eI} {k:Lw->Bool},wsG false (λx=>x.get tm) ps k=true-> ∃l,Oc tm ps=some l/\k l=true
 | [],k,h=>⟨[],rfl,h⟩
 |x::r,k,h=>by
  simp only[wsG]at h;split at h
  . rename_i u L;obtain⟨l,O,Y⟩:=BV h;exact⟨_,by simp only[Oc,L,O],Y⟩
  . simp at h
def JN{α:Type}(A:α)(n:Option Nat)(cs:Lc)(j:Nat)(K:V->α):α:=
 match n with
 |some n=>ki (Nat.ble (j+n) cs.length) (jG ((cs.drop j).take n) λl=>K (.w (.agg l))) A
 |none=>match nth cs j with
  |some c=>Db c λc=>K (.w (.one c))|none=>A
def xa{n:Option Nat}{cs:Lc}{j:Nat}{K:V->Bool}(h:JN false n cs j K=true):w4 n cs j λv=>K v=true:=by
 unfold JN at h;unfold w4;split at h
 . obtain⟨D,h⟩:=cj h;simp only[abv]at D;simp only[if_pos D,cM]at h⊢;exact h
 . split at h
   . rename_i c D;rw[qQ]at D;simp only[D,mW]at h⊢;exact h
   . simp at h
def Il{α:Type}(A:α)(hp:HS)(c:C)(k:Lc->Nat->α):α:=
 match c with
 | .ptr id N i j=>match find hp id with
   |some (.row D o)=>match nth o i with
    |some e=>ki (Nat.beq D N) (k e j) A|none=>A
   |_=>A
 | .yz e j=>k (e.map .t) j|_=>A
def F4{hp:HS}{c:C}{k:Lc->Nat->Bool}(h:Il false hp c k=true): ∃cs j,deref hp c=some (cs,j)/\k cs j=true:=by
 unfold Il at h;split at h
 . split at h
   . rename_i R;split at h
     . rename_i e H;obtain⟨D,h⟩:=cj h;rw[qQ]at H;simp only[adr]at D;exact⟨_,_,by simp[deref,R,D,H],h⟩
     . simp at h
   . simp at h
 . exact⟨_,_,rfl,h⟩
 . simp at h
def aCa{α:Type}(A:α)(c:C)(k:Nat->α):α:=
 match c.CN with
 |some n=>tR n k|none=>A
def asX{α:Type}(A:α)(op:BinOp)(k:IntKind)(a b:Int)(K:V->α):α:=
 match op with
 | .add=>Sy (s0 k (a+b)) λn=>K (iV k n)| .sub=>Sy (s0 k (a - b)) λn=>K (iV k n)| .mul=>Sy (s0 k (a * b)) λn=>K (iV k n)| .eql=>Sz (eqI a b) λc=>K (bV c)| .neq=>Sz (!(eqI a b)) λc=>K (bV c)| .lss=>Sz (Af a b) λc=>K (bV c)| .leq=>Sz (!(Af b a)) λc=>K (bV c)| .gtr=>Sz (Af b a) λc=>K (bV c)| .geq=>Sz (!(Af a b)) λc=>K (bV c)| .quo=>ki (!(eqI b 0)) (Sy (s0 k (a.tdiv b)) λn=>K (iV k n)) A| .rem=>ki (!(eqI b 0)) (Sy (a.tmod b) λn=>K (iV k n)) A| .shl=>ki (!(Af b 0)) (Sy (s0 k (a * aoG (min b.toNat k.bits))) λn=>K (iV k n)) A| .shr=>ki (!(Af b 0)) (Sy (anK a (min b.toNat k.bits)) λn=>K (iV k n)) A| .and=>Sy (atC k a b) λn=>K (iV k n)| .or=>Sy (orI k a b) λn=>K (iV k n)|_=>A
def ER{α:Type}(A:α)(r:Ro)(g:eI->V)(hp:HS)(nid:Nat)(K:V->HS->α):α:=
 match r with
 | .LI x=>wy (g x) λv=>K v hp
 | .pick c x y=>match(g c).jT with
   |some b=>ki b (wy (g x) λv=>K v hp) (wy (g y) λv=>K v hp)|none=>A
 | .alloc z=>K (.w (.one (.ptr nid z.length 0 0))) ((nid,.row z.length [z])::hp)
 | .box x=>match g x with
   | .w u=>jG (cellsOf u) λR=>K (.w (.one (.ptr nid R.length 0 0))) ((nid,.row R.length [R])::hp)|_=>A
 | .build z w=>PY A g z w λR=>K (.w (.agg R)) hp
 | .zI z len w=>Hh A g w λl=>match uX z.length (List.replicate len z) l with
    |some o=>jG o λo=>K (.w (.one (.own nid z.length 0 len))) ((nid,.row z.length o)::hp)|none=>A
 | .load n x=>match g x with
   | .w (.one c)=>Il A hp c λR j=>JN A n R j λv=>K v hp|_=>A
 | .store n x y=>match g x,g y with
   | .w (.one (.ptr id N i j)),.w u=>match find hp id with
     |some (.row D o)=>match nth o i with
      |some L=>ki (Nat.beq D N&&Nat.beq (cellsOf u).length n&&Nat.ble (j+n) L.length)
        (jG (bt L j (cellsOf u)) λLO=>jG (o.set i LO) λxs'=>jG (jB hp id (.row N xs')) λh=>K .undef h) A
      |none=>A
     |_=>A
   |_,_=>A
 | .FV S x=>match g x with
   | .w (.one (.ptr id N i j))=>tR (j+S) λq=>K (.w (.one (.ptr id N i q))) hp| .w (.one (.yz e j))=>tR (j+S) λq=>K (.w (.one (.yz e q))) hp|_=>A
 | .field S n x=>match g x with
   | .w (.agg R)=>JN A n R S λv=>K v hp|_=>A
 | .Kl B x i=>match g x,(g i).jv with
   | .w (.one (.own id N i0 len)),some (_,.ofNat n)=>ki (Nat.beq N B&&Nat.blt n len) (tR (i0+n) λq=>K (.w (.one (.ptr id N q 0))) hp) A
   | .w (.one (.t (.aO N o))),some (_,.ofNat n)=>match nth o n with
     |some e=>ki (Nat.beq N B) (K (.w (.one (.yz e 0))) hp) A|none=>A
   |_,_=>A
 | .CS len B x i=>match g x,(g i).jv with
   | .w (.one c),some (_,.ofNat n)=>match c.shift (n * B)with
     |some d=>ki (Nat.blt n len) (K (.w (.one d)) hp) A|none=>A
   |_,_=>A
 | .slice B x H I=>match g x with
   | .w (.one c)=>match c.CN,c.sz? with
     |some len,some N=>match jI (H.map g) 0,jI (I.map g) len with
       |some l,some h=>ki (Nat.beq N B&&Nat.ble l h&&Nat.ble h len) (match Im c l h with
        |some d=>Db d λd=>K (.w (.one d)) hp
        |none=>A) A
       |_,_=>A
     |_,_=>A
   |_=>A
 | .make z J l c=>match(g l).jv,(g c).jv with
   |some (_,.ofNat l),some (_,.ofNat c)=>ki (Nat.ble l c&&Nat.ble c 4611686018427387904&&Nat.ble (c * J) 281474976710656)
     (jG (List.replicate l z) λo=>K (.w (.one (.own nid z.length 0 l))) ((nid,.row z.length o)::hp)) A
   |_,_=>A
 | .extract x k=>match g x with
   | .fB F=>match nth F k with
     |some u=>wy (.w u) λv=>K v hp|none=>A
   |_=>A
 | .oO f U=>Qy A g U λl=>K (.w (.one (.oO f l))) hp
 | .len x=>match g x with
   | .w (.one c)=>aCa A c λn=>K (iV .i64 (.ofNat n)) hp|_=>A
 | .append B J s x=>match g s,g x with
   | .w (.one s),.w (.one x)=>match tu hp x with
     |some (_,[])=>match s.CN with
      |some _=>Db s λs=>K (.w (.one s)) hp|none=>A
     |some (N,y::Y)=>match s with
      | .own id D 0 len=>match find hp id with
        |some (.row Q o)=>
         ki (Nat.beq N B&&Nat.beq D B&&Nat.beq Q B&&Nat.beq len o.length&&Nat.ble ((len+(Y.length+1)) * J) bh&&Nat.ble (len+(Y.length+1)) maxLen)
          (jG (del hp id) λhp=>jG (o++y::Y) λM=>tR (len+(Y.length+1)) λq=>K (.w (.one (.own nid B 0 q))) ((nid,.row B M)::hp)) A
        |_=>A
      | .t (.val (.slice none 0 0))=>ki (Nat.beq N B&&Nat.ble ((Y.length+1) * J) bh&&Nat.ble (Y.length+1) maxLen)
         (jG (y::Y) λM=>tR (Y.length+1) λq=>K (.w (.one (.own nid B 0 q))) ((nid,.row B M)::hp)) A
      |_=>A
     |none=>A
   |_,_=>A
 | .bin Z x y=>match g x,g y with
   | .w (.one (.t (.val (.int k a)))),.w (.one (.t (.val (.int P b))))=>ki (Nat.beq (MK k) (MK P)) (asX A Z k a b λv=>K v hp) A
   | .w (.one (.t (.val (.string a)))),.w (.one (.t (.val (.string b))))=>match Z with
     | .add=>ki (Nat.ble (a.data.toList.length+b.data.toList.length) 9223372036854775807) (jG (a.data.toList++b.data.toList) λl=>K (.w (.one (.t (.val (.string ⟨⟨l⟩⟩))))) hp) A| .eql=>Sz (a.data.toList==b.data.toList) λc=>K (bV c) hp| .neq=>Sz (!(a.data.toList==b.data.toList)) λc=>K (bV c) hp|_=>A
   |_,_=>A
 | .XF Z x y=>match(g x).jT,(g y).jT with
   |some a,some b=>match Z with
    | .eql=>Sz (a==b) λc=>K (bV c) hp| .neq=>Sz (!(a==b)) λc=>K (bV c) hp|_=>A
   |_,_=>A
 | .eqA neg O x y=>match g x,g y with
   | .w (.agg R),.w (.agg G)=>match xN O R G with
     |some b=>Sz b λb=>match neg with
      |true=>K (bV (!b)) hp|false=>K (bV b) hp
     |none=>A
   |_,_=>A
 | .Ra x y=>match(g x).jv,(g y).jv with
   |some (k,a),some (_,b)=>K (iV k (ki (Af b a) b a)) hp|_,_=>A
 | .Rb x y=>match(g x).jv,(g y).jv with
   |some (k,a),some (_,b)=>K (iV k (ki (Af a b) b a)) hp|_,_=>A
 | .Rf x=>match g x with
   | .w (.one (.t (.val (.string s))))=>tR s.data.toList.length λn=>K (iV .i64 (.ofNat n)) hp|_=>A
 | .Uq x i=>match g x,(g i).jv with
   | .w (.one (.t (.val (.string s)))),some (_,.ofNat n)=>match nth s.data.toList n with
     |some b=>tR b.toNat λq=>K (iV .u8 (.ofNat q)) hp|none=>A
   |_,_=>A
 | .not x=>match(g x).jT with
   |some b=>Sz (!b) λc=>K (bV c) hp|none=>A
 | .neg x=>match(g x).jv with
   |some (k,n)=>Sy (s0 k (0 - n)) λn=>K (iV k n) hp|none=>A
 | .conv k x=>match(g x).jv with
   |some (_,n)=>Sy (s0 k n) λn=>K (iV k n) hp|none=>A
 |_=>A
def ahD{op:BinOp}{x y:eI}{k:IntKind}{a b:Int}{tm:TS}{hp:HS}{K:V->HS->Bool}(hx:x.get tm=iV k a)(hy:y.get tm=iV k b)
 (h:asX false op k a b (λv=>K v hp)=true):XR (.bin op x y) tm hp nid λv hp'=>K v hp'=true:=by
 simp only[XR,hx,hy,if_true];cases op<;>simp only[asX,Ng,vY,sZ,Xb,MJ,abN,aaK,ahG,aoT]at h
 case add=>exact h
 case sub=>exact h
 case mul=>exact h
 case eql=>exact h
 case neq=>exact h
 case lss=>exact h
 case leq=>
  have e:(!decide (b < a))=decide (a<=b):=by rw[adq];simp
  rw[e]at h;exact h
 case gtr=>exact h
 case geq=>
  have e:(!decide (a < b))=decide (a≥b):=by rw[adq];simp
  rw[e]at h;exact h
 case quo=>
  obtain⟨O,Y⟩:=cj h;exact⟨rW,Y⟩
 case rem=>
  obtain⟨O,Y⟩:=cj h;exact⟨rW,Y⟩
 case shl=>
  obtain⟨O,Y⟩:=cj h;exact⟨rW,Y⟩
 case shr=>
  obtain⟨O,Y⟩:=cj h;exact⟨rW,Y⟩
 case and=>exact h
 case or=>exact h
 all_goals simp at h
def asY(s:ByteArray)(n:Nat):s.data.toList[n]? =s[n]? :=by
 by_cases h:n < s.size
 . have Y:n < s.data.size:=h;rw[getElem?_pos s n h];simp only[aaN];rw[getElem?_pos s.data n Y];rfl
 . have Y:¬n < s.data.size:=h;rw[getElem?_neg s n h];simp only[aaN];rw[getElem?_neg s.data n Y]
def aEJ{r:Ro}{tm:TS}{hp:HS}{K:V->HS->Bool}(h:ER false r (λx=>x.get tm) hp nid K=true):XR r tm hp nid λv hp'=>K v hp'=true:=by
 cases r with
 |LI x=>simpa only[ER,XR,dj]using h
 |pick c x y=>
  simp only[ER,XR,dj]at h⊢;split at h
  . rename_i b G;simp only[G];cases b
    . exact h
    . exact h
  . simp at h
 |alloc z=>exact h
 |box x=>
  simp only[ER,XR,cM]at h⊢;split at h
  . rename_i u L;simp only[L];exact h
  . simp at h
 |build z ps=>
  simp only[ER,XR,cM]at h⊢;obtain⟨l,O,Y⟩:=KJ h;simp only[O];exact Y
 |zI z len ps=>
  simp only[ER,XR,cM]at h⊢;obtain⟨l,O,Y⟩:=Fp h;simp only[O];split at Y
  . rename_i M hxs;simp only[hxs];exact Y
  . simp at Y
 |load n x=>
  simp only[ER,XR]at h⊢;split at h
  . rename_i c D;simp only[D];obtain⟨A,j,O,Y⟩:=F4 h
    cases c with
    |ptr id w i j'=>
     simp only[deref]at O;split at O
     . rename_i sz' M R;simp only[R];split at O
       . rename_i S;rw[if_pos S];simp only[jU,uu]at O;obtain⟨e,H,rfl,rfl⟩:=O;simp only[mP,H];exact xa Y
       . simp at O
     . simp at O
    |_=>simp only[O];exact xa Y
  . simp at h
 |store n x y=>
  simp only[ER,XR,cM]at h⊢;split at h
  . rename_i id w i j u N Q;simp only[N,Q];split at h
    . rename_i sz' M R;simp only[R];split at h
      . rename_i el hel;rw[qQ]at hel;simp only[mP,hel];obtain⟨D,h⟩:=cj h;simp only[LD,adr,abv]at D;rw[if_pos ⟨D.1.1,D.1.2,D.2⟩];exact h
      . simp at h
    . simp at h
  . simp at h
 |FV off x=>
  simp only[ER,XR,fu]at h⊢;split at h
  . rename_i N;simp only[N];exact h
  . rename_i N;simp only[N];exact h
  . simp at h
 |field off n x=>
  simp only[ER,XR]at h⊢;split at h
  . rename_i N;simp only[N];exact xa h
  . simp at h
 |Kl size x i=>
  simp only[ER,XR,fu]at h⊢;split at h
  . rename_i id w i0 len q n N I;simp only[N,I];obtain⟨D,h⟩:=cj h;simp only[LD,adr,Nat.blt,abv]at D;rw[if_pos D.1];refine⟨⟨ab4 n,?_⟩,h⟩;show(n:Int) < (len:Int);omega
  . rename_i w M q n N I;simp only[N,I];split at h
    . rename_i e H;rw[qQ]at H;obtain⟨D,h⟩:=cj h;simp only[adr]at D;rw[if_pos D];exact⟨ab4 n,e,H,h⟩
    . simp at h
  . simp at h
 |CS len size x i=>
  simp only[ER,XR]at h⊢;split at h
  . rename_i c q n N I;simp only[N,I];split at h
    . rename_i d F;obtain⟨D,h⟩:=cj h;have e:(Int.ofNat n).toNat=n:=rfl;simp only[e,F];simp only[Nat.blt,abv]at D;refine⟨⟨ab4 n,?_⟩,h⟩;show(n:Int) < (len:Int);omega
    . simp at h
  . simp at h
 |slice size x lo I=>
  simp only[ER,XR,mW]at h⊢;split at h
  . rename_i c D;simp only[D];split at h
    . rename_i len w U S;simp only[U,S];split at h
      . rename_i l P O Y;obtain⟨D,h⟩:=cj h;simp only[LD,adr,abv]at D;rw[if_pos D.1.1];refine QA O (QA Y ⟨⟨D.1.2,D.2⟩,?_⟩);split at h
        . rename_i d F;simp only[xS,F];exact h
        . simp at h
      . simp at h
    . simp at h
  . simp at h
 |make z bytes l c=>
  simp only[ER,XR,cM]at h⊢;split at h
  . rename_i q l' q' c' U D;simp only[U,D];obtain⟨P,h⟩:=cj h;obtain⟨aJ5,hh3⟩:=LD _ _▸P;obtain⟨hh1,hh2⟩:=LD _ _▸aJ5;have g1:=abp hh1;have g2:=abp hh2;have g3:=abp hh3;refine⟨⟨ab4 l',Int.ofNat_le.2 g1,?_,?_⟩,h⟩
    . show(c':Int)<=_;omega
    . show(c':Int) * (bytes:Int)<=_;rw[<-adB];generalize c' * bytes=q at g3;omega
  . simp at h
 |extract x k=>
  simp only[ER,XR,dj]at h⊢;split at h
  . rename_i Z N;simp only[N];split at h
    . rename_i u L;rw[qQ]at L;simp only[L];exact h
    . simp at h
  . simp at h
 |oO f eE=>
  simp only[ER,XR]at h⊢;obtain⟨l,O,Y⟩:=Lj h;simp only[O];exact Y
 |len x=>
  simp only[ER,XR,aCa,fu]at h⊢;split at h
  . rename_i c D;simp only[D];split at h
    . rename_i n o;simp only[o];exact h
    . simp at h
  . simp at h
 |append size bytes s x=>
  simp only[ER,XR,cM,fu,mW]at h⊢;split at h
  . rename_i s' x' S N;simp only[S,N];split at h
    . rename_i w H;simp only[H];split at h
      . rename_i ln hln;simp only[hln];exact h
      . simp at h
    . rename_i w y ys H;simp only[H];split at h
      . rename_i id sz' len;split at h
        . rename_i eV M R;simp only[R];obtain⟨D,h⟩:=cj h;simp only[LD,adr,abv]at D;obtain⟨⟨⟨⟨⟨O,Y⟩,B⟩,g⟩,J⟩,h6⟩:=D;subst g;rw[if_pos ⟨O,Y,B⟩];exact⟨⟨rfl,J,h6⟩,h⟩
        . simp at h
      . obtain⟨D,h⟩:=cj h;simp only[LD,adr,abv]at D;obtain⟨⟨O,Y⟩,B⟩:=D;rw[if_pos O];exact⟨⟨Y,B⟩,h⟩
      . simp at h
    . simp at h
  . simp at h
 |bin op x y=>
  simp only[ER]at h;split at h
  . rename_i k a k' b N Q;obtain⟨D,h'⟩:=cj h;have:=O5 D;subst this;exact ahD N Q h'
  . rename_i a b N Q;simp only[XR,N,Q];split at h
    . obtain⟨O,Y⟩:=cj h;rw[cM]at Y
      have e:(⟨⟨a.data.toList++b.data.toList⟩⟩:ByteArray)=a++b:=by
       apply ByteArray.ext;rw[ByteArray.data_append];apply Array.ext';simp
      rw[e]at Y;exact⟨by have B:=abp O;rw[abZ,abZ]at B;exact B,Y⟩
    . simpa only[vY,ByteArray.toList_eq]using h
    . simpa only[vY,ByteArray.toList_eq]using h
    . simp at h
  . simp at h
 |XD x=>simp[ER]at h
 |eqA neg ks x y=>
  simp only[ER,XR]at h⊢;split at h
  . rename_i A ds N Q;simp only[N,Q];split at h
    . rename_i b G;simp only[G];rw[vY]at h;cases neg<;>exact h
    . simp at h
  . simp at h
 |XF op x y=>
  simp only[ER,XR]at h⊢;split at h
  . rename_i a b N Q;simp only[N,Q];split at h
    . simpa only[vY]using h
    . simpa only[vY]using h
    . simp at h
  . simp at h
 |Ra x y=>
  simp only[ER,XR,MJ]at h⊢;split at h
  . rename_i k a k' b N Q;simp only[N,Q];have e:ki (decide (b < a)) b a=if b < a then b else a:=by by_cases G:b < a<;>simp[ki,G]
    rw[e]at h;exact h
  . simp at h
 |Rb x y=>
  simp only[ER,XR,MJ]at h⊢;split at h
  . rename_i k a k' b N Q;simp only[N,Q];have e:ki (decide (a < b)) b a=if b > a then b else a:=by by_cases G:a < b<;>simp[ki,G]
    rw[e]at h;exact h
  . simp at h
 |Rf x=>
  simp only[ER,XR,fu]at h⊢;split at h
  . rename_i s N;simp only[N];exact h
  . simp at h
 |Uq x i=>
  simp only[ER,XR,fu]at h⊢;split at h
  . rename_i s q n N I;simp only[N,I];split at h
    . rename_i b G;rw[qQ]at G;refine⟨ab4 n,b,?_,h⟩;have e:(Int.ofNat n).toNat=n:=rfl;rw[e, <-asY];exact G
    . simp at h
  . simp at h
 |not x=>
  simp only[ER,XR,vY]at h⊢;split at h
  . rename_i b G;simp only[G];exact h
  . simp at h
 |neg x=>
  simp only[ER,XR,Ng,sZ]at h⊢;split at h
  . rename_i k n N;simp only[N];exact h
  . simp at h
 |conv k x=>
  simp only[ER,XR,Ng,sZ]at h⊢;split at h
  . rename_i q n N;simp only[N];exact h
  . simp at h
 |call f M=>simp[ER]at h
 |oP x M=>simp[ER]at h
 |raw op ty=>simp[ER]at h
end Go.aW
namespace Go.aW
open Go
variable{P:Program}{M A:agt}{ρ:Env}{F:agt}{st:St}{a:Act}{w:World}
abbrev bare(op:Op)(ty:TypeId):Oper:=⟨none,op,ty, "", #[],none⟩
def Aq(b:Operand->Value)(o:Oper):execOp b (bare o.op o.type)=execOp b o:=by cases o;rfl
def EG(get:Operand->V)(o:Oper):bS P get (bare o.op o.type)=bS P get o:=by cases o;rfl
def Ar(get:Operand->V)(hp:HS)(nid:Nat)(o:Oper):aK P get hp nid (bare o.op o.type)=aK P get hp nid o:=by cases o;rfl
def Rel.Va(h:Rel M A ρ F st a w){nid:Nat}(K:F nid):
 Rel M (λb=>A b\/b=w.heap.size) (dr ρ nid (.gD w.heap.size)) (Sub F nid) {st with heap:=(nid,.mp [] 0)::st.heap} a (w.alloc (.map #[] 0))/\dD ρ (dr ρ nid (.gD w.heap.size)):=by
 have d:=h.fresh nid K;have R:dD ρ (dr ρ nid (.gD w.heap.size)):=dD.jB d;have Z:=sO (A:=A) (w:=w) (.map #[] 0);have S:=ow (w:=w) (.map #[] 0);have s:(w.alloc (.map #[] 0)).heap[w.heap.size]? =some (.map #[] 0):=heap_alloc_new w _;refine⟨⟨h.size,h.defers,λt v z=>(h.tmps t v z).keeps Z S R,?_,?_,?_,?_,?_,h.dR.LN (dA.alloc _ _ _) (λb G h=>h.elim id (λe=>by omega))⟩,R⟩
 . intro id blk hf;simp only[aF]at hf;split at hf
   . rename_i J;subst J;simp only[ii]at hf;subst hf;exact⟨w.heap.size, #[],by simp[dr],h.may _ (ww _),.inr rfl,s,rfl,λi k c n I=>by simp at I⟩
   . have G:=h.heap id blk hf;exact G.keeps Z S R (λb G=> .inl G) (λb g=>RowKit.Below.heap_alloc w _ b (G.lt g).1)
 . intro id id' blk gU b hf qj hr cU;simp only[aF]at hf qj;simp only[dr]at hr cU
   by_cases H:nid=id<;>by_cases o:nid=id'
   . omega
   . simp only[o,if_false]at qj;have:¬id'=nid:=λe=>o e.symm;simp only[this,if_false]at cU;simp only[H.symm,if_true,ii,Loc.gD.injEq]at hr;have:=((h.heap id' gU qj).lt cU).1;omega
   . simp only[H,if_false]at hf;have:¬id=nid:=λe=>H e.symm;simp only[this,if_false]at hr;simp only[o.symm,if_true,ii,Loc.gD.injEq]at cU;have:=((h.heap id blk hf).lt hr).1;omega
   . simp only[H,o,if_false]at hf qj;have U:¬id=nid:=λe=>H e.symm;have l:¬id'=nid:=λe=>o e.symm;simp only[U,l,if_false]at hr cU;exact h.inj id id' blk gU b hf qj hr cU
 . intro id I;have:¬id=nid:=λe=>I.2 ⟨aa,aa⟩;simp only[dr,this,if_false];exact h.fresh id I.1
 . intro b G;simp only[World.alloc,acY];rcases G with G|G
   . have:=h.bound b G;omega
   . omega
 . intro b G;refine h.may b ?_;simp only[World.alloc,acY]at G;omega
def Rel.acE(h:Rel M A ρ F st a w)(o:Obj):Rel M A ρ F st a (w.alloc o)/\dA M w (w.alloc o):=by
 have Z:dS A A w (w.alloc o):=⟨ak,λb l K=>⟨RowKit.Below.heap_alloc w o b l,K⟩⟩;have S:=ow (w:=w) o;refine⟨⟨h.size,h.defers,λt v z=>(h.tmps t v z).keeps Z S (dD.refl _),λid L R=>?_,h.inj,h.fresh,λb G=>?_,λb G=>?_,h.dR.LN (dA.alloc _ _ _) (λ_ _ h=>h)⟩,dA.alloc M w o⟩
 . have G:=h.heap id L R;exact G.keeps Z S (dD.refl _) (λ_ h=>h) (λb g=>RowKit.Below.heap_alloc w _ b (G.lt g).1)
 . have:=h.bound b G;simp only[World.alloc,acY];omega
 . simp only[World.alloc,acY]at G;exact h.may b aa
def Rel.aA9(h:Rel M A ρ F st a w){id sz:Nat}{xs:Lq}(R:find st.heap id=some (.row sz xs))(n:Nat):Rel M A ρ F {st with heap:=jB st.heap id (.row sz (xs.take n))} a w:=by
 refine⟨h.size,h.defers,h.tmps,λk L Z=>?_,λk P L o b O Y y B=>?_,h.fresh,h.bound,h.may,h.dR⟩
 . simp only[bO]at Z;split at Z
   . rename_i N;subst N;simp only[R,wv,ii]at Z;subst Z;obtain⟨O,Y⟩:=h.heap k _ R;refine⟨λe H=>O e (aah H),?_⟩;rcases Y with⟨b,c,e,s,v,z,S,l,K⟩|⟨s,v⟩
     . refine .inl ⟨b,c,e,s,v,z,S,?_,λi r j q I Q=>?_⟩
       . have:(xs.take n).length * sz<=xs.length * sz:=YH _ gZ;omega
       . have G:xs[i]? =some r:=by
          rw[aa4]at I;split at I
          . exact I
          . simp at I
         exact K i r j q G Q
     . exact .inr ⟨s,by simp[v]⟩
   . exact h.heap k L Z
 . have g:∀q D,find (jB st.heap id (.row sz (xs.take n))) q=some D-> ∃U,find st.heap q=some U:=by
    intro q D d;simp only[bO]at d;split at d
    . rename_i e;subst e;exact⟨_,R⟩
    . exact⟨_,d⟩
   obtain⟨J,g1⟩:=g k L O;obtain⟨x,g2⟩:=g P o Y;exact h.inj k P J x b g1 g2 y B
end Go.aW
namespace Go.aW
open Go
variable{P:Program}{M A:agt}{ρ:Env}{F:agt}{st:St}{a:Act}{w:World}
def gO:Lc->Option Lt
 | []=>some []
 | .t x::r=>(gO r).map (x:: ·)
 |_::_=>none
def recv(v:V):Option (Bool×Lt):=
 match v with
 | .w (.one (.t t))=>some (false,[t])| .w (.agg R)=>(gO R).map λZ=>(true,Z)|_=>none
def mvC:V->Option C
 | .w (.one c)=>some c| .w (.agg R)=>(gO R).map .pk|_=>none
def EX{α:Type}(P:Program)(A:α)(op:Op)(ty:TypeId)(g:eI->V)(hp:HS)(ctr:Nat)(K:V->HS->α):α:=
 let d:=match aK P (λx=>g (eR x)) hp ctr (bare op ty)with
  |some (v,w)=>wy v λv=>K v w
  |none=>match bS P (λx=>g (eR x)) (bare op ty)with
   |some v=>wy v λv=>K v hp|none=>A
 match op with
 | .makeMap _ none=>K (.w (.one (.map ctr))) ((ctr,.mp [] 0)::hp)
 | .mapUpdate t m k x=>match g (eR m),(g (eR k)).val?,mvC (g (eR x))with
   | .w (.one (.map id)),some U,some c=>match P.underlying t,find hp id with
     |some (.map a _),some (.mp B Y)=>match iY P false a U B with
      |some (some i)=>match nth B i with
       |some (N,_,D)=>ki (Instr.sameBits 10000 N U) (jG (B.set i (U,c,D)) λo=>jG (jB hp id (.mp o Y)) λh=>K .undef h) A|none=>A
      |some none=>jG (B++[(U,c,Y)]) λo=>tR (Y+1) λq=>jG (jB hp id (.mp o q)) λh=>K .undef h|none=>A
     |_,_=>A
   |_,_,_=>A
 | .lookup t m k ok=>match g (eR m),(g (eR k)).val? with
   | .w (.one (.map id)),some U=>match P.underlying t,find hp id with
     |some (.map a S),some (.mp B _)=>match iY P B.isEmpty a U B with
      |some (some i)=>match nth B i with
       |some (_,c,_)=>Db c λc=>K (match ok with|true=> .fB [cw c,bT true]|false=> .w (cw c)) hp
       |none=>A
      |some none=>match ny P S with
       |some z=>Db (.t (.val z)) λc=>K (match ok with|true=> .fB [.one c,bT false]|false=> .w (.one c)) hp
       |none=>A
      |none=>A
     |_,_=>A
   |_,_=>A
 | .call ⟨.builtin .len,j,lB⟩=>match j.toList,lB.toList with
   | [x],[t]=>match g (eR x)with
     | .w (.one (.map id))=>match P.underlying t,find hp id with
       |some (.map _ _),some (.mp B _)=>tR B.length λn=>K (iV .i64 (.ofNat n)) hp|_,_=>A
     |_=>d
   |_,_=>d
 | .call ⟨.builtin .delete,j,lB⟩=>match j.toList,lB.toList with
   | [m,k],[t,_]=>match g (eR m),(g (eR k)).val? with
     | .w (.one (.map id)),some U=>match P.underlying t,find hp id with
       |some (.map a _),some (.mp B Y)=>match iY P B.isEmpty a U B with
        |some (some i)=>jG (B.eraseIdx i) λo=>jG (jB hp id (.mp o Y)) λh=>K (.fB []) h|some none=>K (.fB []) hp|none=>A
       |_,_=>A
     |_,_=>A
   |_,_=>A
 | .range t x=>match g (eR x)with
   | .w (.one (.map id))=>match P.underlying t,find hp id with
     |some (.map _ _),some (.mp _ _)=>K (.w (.one (.it id))) hp|_,_=>A
   |_=>A
 | .next x false=>match g (eR x)with
   | .w (.one (.it id))=>match find hp id with
     |some (.mp [] _)=>K (.fB [bT false]) hp|_=>A
   |_=>A
 | .makeFunc (.func f) first J=>match first.toList,J.toList with
   | [x],[]=>match recv (g (eR x))with
     |some (b,Z)=>K (.w (.one (.Ix f b Z))) hp|none=>A
   |_,_=>d
 | .call ⟨.builtin .append,j,lB⟩=>match j.toList,lB.toList with
   | [s,x],[t,t']=>match P.underlying t' with
     |some (.int _)=>match g (eR s),(g (eR x)).jv,P.underlying t with
      | .w (.one (.t (.val (.slice none 0 0)))),some (.i64,.ofNat (n+1)),some (.slice e)=>match qy P e,j9 P e with
        |some (G,F),some z=>ki (Nat.beq z.length G&&Nat.ble ((n+1) * F) 70368744177664&&Nat.ble (n+1) 70368744177664)
          (jG (List.replicate (n+1) z) λM=>K (.w (.one (.own ctr G 0 (n+1)))) ((ctr,.row G M)::hp)) A
        |_,_=>A
      |_,_,_=>A
     |_=>d
   |_,_=>d
 | .binOp bo t x y _=>match g (eR x),g (eR y),P.underlying t with
   | .w (.one (.ptr _ _ _ _)),.w (.one (.t (.val (.pointer none)))),some (.pointer _)=>match bo with
     | .eql=>K (bV false) hp| .neq=>K (bV true) hp|_=>A
   |_,_,_=>d
 |_=>d
def NQ(P:Program)(n:Nat)(o:Oper)(tm:Tr)(hp:HS)(ctr:Nat)(v:V)(hp':HS):Prop:=
 ∀ (M A:agt) (ρ:Env) (a:Act) (w:World) (L:TS),ir tm L->Rel M A ρ (bJ ctr) ⟨n,L,hp⟩ a w->uq M A ρ (bJ (ctr+4)) a w ((execOp a.eval o).run P w) ⟨n,L,hp'⟩ v
variable{ctr n:Nat}{o:Oper}{v:V}
def cW:∀id,bJ (ctr+4) id->bJ ctr id:=λid h=>by simp only[bJ]at *;omega
def get_eq{tm:Tr}{L:TS}(R:ir tm L)(n:Nat)(hp:HS):(λx=>gT tm (eR x))=St.get ⟨n,L,hp⟩:=by
 funext x;rw[qp R];exact bW ⟨n,L,hp⟩ x
def RV.at{tm:Tr}{L:TS}{n:Nat}{hp:HS}(R:ir tm L)(J:Rel M A ρ F ⟨n,L,hp⟩ a w)(x:Operand):RV w A ρ (gT tm (eR x)) (a.eval x):=by
 have:=J.get x;rw[<-congrFun (get_eq R n hp) x]at this;exact this
def KY{tm:Tr}{hp hp':HS}(h:aK P (λx=>gT tm (eR x)) hp ctr (bare o.op o.type)=some (v,hp')):NQ P n o tm hp ctr v hp':=by
 intro M A ρ a w L R J;rw[Ar,get_eq R n hp]at h;obtain⟨x,j,l,s,O,Y,B⟩:=qY (st:=⟨n,L,hp⟩) h J (ww ctr);exact⟨x,j,l,s,O,Y.sub kD,B⟩
def EF{tm:Tr}{hp:HS}(h:bS P (λx=>gT tm (eR x)) (bare o.op o.type)=some v):NQ P n o tm hp ctr v hp:=by
 intro M A ρ a w L R J;rw[EG,get_eq R n hp]at h;exact kQ (st:=⟨n,L,hp⟩) h J cW
def qI:∀ {cs:Lc} {ts:Lt},gO cs=some ts->cs=ts.map .t
 | [],ts,h=>by simp only[gO,ii]at h;subst h;rfl
 | .t x::r,ts,h=>by
   simp only[gO,jU]at h;obtain⟨l,U,rfl⟩:=h;simp[qI U]
 | .own .. ::_,ts,h=>M1
 | .ptr .. ::_,ts,h=>M1
 | .yz .. ::_,ts,h=>M1
 | .oO .. ::_,ts,h=>M1
 | .map _::_,ts,h=>M1
 | .it _::_,ts,h=>M1
 | .Ix .. ::_,ts,h=>M1
 | .pk .. ::_,ts,h=>M1
 | .any::_,ts,h=>M1
def JY{c:C}{x:Value}(h:mvC v=some c)(J:RV w A ρ v x):RC w A ρ c x/\DW c x:=by
 unfold mvC at h;split at h
 . simp only[ii]at h;subst h;exact⟨J.1,.inl J.2⟩
 . simp only[jU]at h;obtain⟨l,U,rfl⟩:=h;have:=qI U;subst this;exact DW.pk J
 . simp at h
def Rr{b:Bool}{ts:Lt}{x:Value}(h:recv v=some (b,ts))(J:RV w A ρ v x):RF w A b ts x:=by
 unfold recv at h;split at h
 . simp only[ii,uu]at h;obtain⟨rfl,rfl⟩:=h;exact⟨_,rfl,J.1,J.2⟩
 . simp only[jU,uu]at h;obtain⟨l,U,rfl,rfl⟩:=h;have:=qI U;subst this;obtain⟨o,rfl,O,Y⟩:=J;exact⟨o,rfl,rW,λk t y Q G=>Y k (.t t) y Fc G⟩
 . simp at h
def pU{t t' ty e:TypeId}{b:IntKind}{i:TypeInfo}{z:Value}(Q:P.underlying t=some (.slice e))(d:P.underlying t'=some (.int b))(I:P.info? e=some i)(A:i.zero=some z)
 (n:Nat) (s:0 < n) (L:0 < i.size) (K:n<=70368744177664) (j:n * i.bytes<=70368744177664) (w:World):
 (Builtin.append_ #[t,t'] ty #[.slice none 0 0,.int .i64 (n:Int)]).run P w=
   .ok (.slice (some ⟨w.heap.size,0,none⟩) n (grownCap w n 0 e)) (w.drew.alloc (.cells (Builtin.zeroCells z.cells n++Builtin.zeroCells z.cells (grownCap w n 0 e - n)) e)):=by
 have g:n≠0:=aa
 have r:i.size≠0:=aa
 have l:¬ (9223372036854775807 < (n:Int)):=aa
 have o:¬ (281474976710656 < Builtin.nextslicecap n 0 * i.bytes):=by rw[nextslicecap_zero s];omega
 have a:IntKind.i64.wrap (n:Int)=(n:Int):=wrap_i64 aa aa;have c:¬ ((n:Int) < 0):=aa
 have v:¬ (281474976710656 < (n:Int) * (i.bytes:Int)):=by rw[<-adB];generalize n * i.bytes=q at j;omega
 simp[Builtin.append_,run_underlying Q,run_underlying d,sizeOf,typeInfo,zeroValue,I,A,asInt,asIntOf,a,c,v,g,r,l,o,Question.forced,run_firstCells_none,newRow,grownCap];intro h;rcases Nat.mul_eq_zero.1 h with h|h
 . exact absurd h g
 . exact absurd h r
def YC{tm:Tr}{hp:HS}{K:V->HS->Bool}(h:EX P false o.op o.type (gT tm) hp ctr K=true): ∃v hp',NQ P n o tm hp ctr v hp'/\K v hp'=true:=by
 obtain⟨op,hop⟩: ∃op,op=o.op:=⟨_,rfl⟩
 have other:(match aK P (λx=>gT tm (eR x)) hp ctr (bare o.op o.type)with
  |some (v,hp')=>wy v λv=>K v hp'
  |none=>match bS P (λx=>gT tm (eR x)) (bare o.op o.type)with
   |some v=>wy v λv=>K v hp
   |none=>false)=true-> ∃v hp',NQ P n o tm hp ctr v hp'/\K v hp'=true:=by
  intro h;split at h
  . rename_i v hp' H;rw[dj]at h;exact⟨v,hp',KY H,h⟩
  . split at h
    . rename_i v H;rw[dj]at h;exact⟨v,hp,EF H,h⟩
    . simp at h
 have qk:∀ (ev:Operand->Value),execOp ev o=execOp ev (bare op o.type):=λev=>by rw[hop,Aq]
 rw[<-hop]at h other;unfold EX at h;simp only at h;split at h
 ·
  rename_i t;refine⟨_,_,?_,h⟩;intro M A ρ a w L O J;obtain⟨r1,r2⟩:=Rel.Va (st:=⟨n,L,hp⟩) J (ww ctr);refine⟨.map (some w.heap.size),w.alloc (.map #[] 0),_,_,.inl ?_,r1.sub kD,⟨⟨w.heap.size,by simp[dr],rfl⟩,rfl⟩,dA.alloc M w _,r2,bY.new A w⟩;rw[qk];simp[execOp,Instr.makeMap]
 ·
  rename_i t m k x;split at h
  . rename_i id kv c hm hk N;split at h
    . rename_i kt et es clock g R;split at h
      . rename_i i rH;split at h
        . rename_i old c0 born Ak;obtain⟨Tv,h⟩:=cj h;rw[cM,cM]at h;rw[qQ]at Ak;refine⟨_,_,?_,h⟩;intro M A ρ a w L O J;have vm:=RV.at O J m;rw[hm]at vm;have vk:=V.bR hk (RV.at O J k);have vx:=JY N (RV.at O J x);obtain⟨b,en,q1,q2,q3,q4,q5⟩:=iT J R vm;obtain⟨c1,o2,c2,c3,c4⟩:=dJ rH (gi (id:=id) (clock:=clock) q4 q5) w
          cases o2 with
          |none=>simp at c3
          |some p=>
           obtain⟨j,v⟩:=p;simp only[wv,ii]at c3;subst c3;obtain⟨e0,Y,Z,e3,_⟩:=q5 j old c0 born Ak;have I:j < en.size:=(aat.1 Y).1;have he0:en[j]=e0:=by simpa[I]using Y
           obtain⟨r1,r2⟩:=Rel.sC (st:=⟨n,L,hp⟩) (clock':=clock) (es':=es.set j (kv,c,born)) (en':=en.modify j λe=>{e with key:=kv,val:=a.eval x}) J R q1 q3 agq (λi k' c' n' hi'=>by
            by_cases hij:j=i
            . subst hij;rw[aaj (by rw[<-q4];exact I)]at hi';simp only[ii,uu]at hi';obtain⟨rfl,rfl,rfl⟩:=hi';refine⟨{e0 with key:=kv,val:=a.eval x},by simp[ab5,Y],rfl,e3,vx.1,vx.2⟩
            . rw[aam hij]at hi';obtain⟨e,g1,g2,g3,g4,g5⟩:=q5 i k' c' n' hi';exact⟨e,by simp[ab5,hij,g1],g2,g3,g4,g5⟩)
           refine⟨undef,_,A,ρ,.inr ⟨?_,rfl⟩,r1.sub cW,trivial,r2,dD.refl _,bY.refl _ _⟩
           have hks:(Instr.keyThatStays (((en[j]?).map (·.key)).getD kv) kv).run P w= .ok kv w:=by
            simp[Instr.keyThatStays,Y,Z,Tv]
           rw[qk];simp only[execOp,Instr.mapUpdate,Sem.run_bind,run_underlying g,Result.andThen_ok,q2,pX q3,vk,c1,c2,hks,Ec _ q3,Sem.run_pure]
        . simp at h
      . rename_i rH;rw[cM,fu,cM]at h;refine⟨_,_,?_,h⟩;intro M A ρ a w L O J;have vm:=RV.at O J m;rw[hm]at vm;have vk:=V.bR hk (RV.at O J k);have vx:=JY N (RV.at O J x);obtain⟨b,en,q1,q2,q3,q4,q5⟩:=iT J R vm;obtain⟨c1,o2,c2,c3,c4⟩:=dJ rH (gi (id:=id) (clock:=clock) q4 q5) w
        cases o2 with
        |some p=>simp at c3
        |none=>
         obtain⟨r1,r2⟩:=Rel.sC (st:=⟨n,L,hp⟩) (clock':=clock+1) (es':=es++[(kv,c,clock)]) (en':=en.push {key:=kv,val:=a.eval x,born:=clock}) J R q1 q3 agq (λi k' c' n' hi'=>by
          by_cases hlt:i < es.length
          . rw[aaf hlt]at hi';obtain⟨e,g1,g2,g3,g4,g5⟩:=q5 i k' c' n' hi';exact⟨e,by rw[adb,if_neg aa];exact g1,g2,g3,g4,g5⟩
          . rw[aai aa]at hi'
            have d:i - es.length=0:=by
             have:=(jl.1 hi').1;simp at this;omega
            rw[d]at hi';simp only[yq,ii,uu]at hi';obtain⟨rfl,rfl,rfl⟩:=hi';exact⟨⟨kv,a.eval x,clock⟩,by rw[adb,if_pos aa],rfl,rfl,vx.1,vx.2⟩)
         refine⟨undef,_,A,ρ,.inr ⟨?_,rfl⟩,r1.sub cW,trivial,r2,dD.refl _,bY.refl _ _⟩;rw[qk];simp only[execOp,Instr.mapUpdate,Sem.run_bind,run_underlying g,Result.andThen_ok,q2,pX q3,vk,c1,c2,Ec _ q3,Sem.run_pure]
      . simp at h
    . simp at h
  . simp at h
 ·
  rename_i t m k ok;split at h
  . rename_i id kv hm hk;split at h
    . rename_i kt et es clock g R;split at h
      . rename_i i rH;split at h
        . rename_i k0 c born Ak;rw[mW]at h;rw[qQ]at Ak;refine⟨_,_,?_,h⟩;intro M A ρ a w L O J;have vm:=RV.at O J m;rw[hm]at vm;have vk:=V.bR hk (RV.at O J k);obtain⟨b,en,q1,q2,q3,q4,q5⟩:=iT J R vm;obtain⟨c1,o2,c2,c3,c4⟩:=dJ rH (gi (id:=id) (clock:=clock) q4 q5) w
          cases o2 with
          |none=>simp at c3
          |some p=>
           obtain⟨j,v⟩:=p;simp only[wv,ii]at c3;subst c3;obtain⟨e0,Y,Z,e3,e4,e5⟩:=q5 j k0 c born Ak;obtain⟨e',g1,rfl⟩:=c4 j v rfl;rw[Y]at g1;simp only[ii]at g1;subst g1
           have hrun:(execOp a.eval o).run P w= .ok (.value (if ok then .tuple #[e0.val,.bool true]else e0.val)) w:=by
            rw[qk];simp only[execOp,Instr.lookup,Sem.run_bind,run_underlying g,Result.andThen_ok,q2,pX q3,Sem.run_pure,vk,fQ q4,c1,c2]
           refine⟨_,w,A,ρ,.inl hrun,J.sub cW,?_,dA.refl _ _,dD.refl _,bY.refl _ _⟩
           cases ok with
           |true=>exact Q3 (e5.rw e4)
           |false=>exact e5.rw e4
        . simp at h
      . rename_i rH;split at h
        . rename_i z d;rw[mW]at h;refine⟨_,_,?_,h⟩;intro M A ρ a w L O J;have vm:=RV.at O J m;rw[hm]at vm;have vk:=V.bR hk (RV.at O J k);obtain⟨b,en,q1,q2,q3,q4,q5⟩:=iT J R vm;obtain⟨c1,o2,c2,c3,c4⟩:=dJ rH (gi (id:=id) (clock:=clock) q4 q5) w
          cases o2 with
          |some p=>simp at c3
          |none=>
           obtain⟨hzr,fK⟩:=yD d w
           have hrun:(execOp a.eval o).run P w= .ok (.value (if ok then .tuple #[z,.bool false]else z)) w:=by
            rw[qk];simp only[execOp,Instr.lookup,Sem.run_bind,run_underlying g,Result.andThen_ok,q2,pX q3,Sem.run_pure,vk,fQ q4,c1,c2,hzr]
           refine⟨_,w,A,ρ,.inl hrun,J.sub cW,?_,dA.refl _ _,dD.refl _,bY.refl _ _⟩
           cases ok with
           |true=>exact Q3 (u0:= .one (.t (.val z))) ⟨RT.val fK,fK⟩
           |false=>exact⟨RT.val fK,fK⟩
        . simp at h
      . simp at h
    . simp at h
  . simp at h
 ·
  rename_i args lB;split at h
  . rename_i x t hargs mm;split at h
    . rename_i id N;split at h
      . rename_i kt et es clock g R;rw[fu]at h;refine⟨_,_,?_,h⟩;intro M A ρ a w L O J;have vm:=RV.at O J x;rw[N]at vm;obtain⟨b,en,q1,q2,q3,q4,q5⟩:=iT J R vm;have ea:args= #[x]:=jh
        have et:lB= #[t]:=agd
        subst ea;subst et
        have hrun:(execOp a.eval o).run P w= .ok (.value (goInt en.size)) w:=by
         rw[qk];simp[execOp,resolve,invoke,builtin,Builtin.len_,run_underlying g,q2,pX q3]
        refine⟨_,w,A,ρ,.inl hrun,J.sub cW,?_,dA.refl _ _,dD.refl _,bY.refl _ _⟩;rw[q4];exact RV.ofValue w A ρ (goInt es.length)
      . simp at h
    . exact other h
  . exact other h
 ·
  rename_i args lB;split at h
  . rename_i m k t t' hargs mm;split at h
    . rename_i id kv hm hk;split at h
      . rename_i kt et es clock g R;have ea:args= #[m,k]:=jh
        have et:lB= #[t,t']:=agd
        subst ea;subst et;split at h
        . rename_i i rH;rw[cM,cM]at h;refine⟨_,_,?_,h⟩;intro M A ρ a w L O J;have vm:=RV.at O J m;rw[hm]at vm;have vk:=V.bR hk (RV.at O J k);obtain⟨b,en,q1,q2,q3,q4,q5⟩:=iT J R vm;obtain⟨c1,o2,c2,c3,c4⟩:=dJ rH (gi (id:=id) (clock:=clock) q4 q5) w
          cases o2 with
          |none=>simp at c3
          |some p=>
           obtain⟨j,v⟩:=p;simp only[wv,ii]at c3;subst c3;obtain⟨e',g1,_⟩:=c4 j v rfl;have Q:j < en.size:=(aat.1 g1).1
           obtain⟨r1,r2⟩:=Rel.sC (st:=⟨n,L,hp⟩) (clock':=clock) (es':=es.eraseIdx j) (en':=en.eraseIdxIfInBounds j) J R q1 q3
            lg (λi k' c' n' hi'=>by
            rw[afb]at hi'
            have H:(en.eraseIdxIfInBounds j)[i]? =if i < j then en[i]? else en[i+1]? :=by
             rw[Array.eraseIdxIfInBounds,dif_pos Q,ae4]
            rw[H];split at hi'
            . rename_i hlt;rw[if_pos hlt];exact q5 i k' c' n' hi'
            . rename_i hlt;rw[if_neg hlt];exact q5 (i+1) k' c' n' hi')
           have hrun:(execOp a.eval o).run P w= .ok (.value (.tuple #[])) {w with heap:=w.heap.setIfInBounds b (.map (en.eraseIdxIfInBounds j) clock)}:=by
            rw[qk];simp only[execOp,resolve,invoke,builtin,Builtin.delete_];simp[run_underlying g,q2,pX q3,vk,fQ q4,c1,c2,Ec _ q3]
           exact⟨_,_,A,ρ,.inl hrun,r1.sub cW,⟨#[],rfl,rfl,ak⟩,r2,dD.refl _,bY.refl _ _⟩
        . rename_i rH;refine⟨_,_,?_,h⟩;intro M A ρ a w L O J;have vm:=RV.at O J m;rw[hm]at vm;have vk:=V.bR hk (RV.at O J k);obtain⟨b,en,q1,q2,q3,q4,q5⟩:=iT J R vm;obtain⟨c1,o2,c2,c3,c4⟩:=dJ rH (gi (id:=id) (clock:=clock) q4 q5) w
          cases o2 with
          |some p=>simp at c3
          |none=>
           have V4:b < w.heap.size:=by
            rcases aa8 b w.heap.size with U|hg
            . exact U
            . simp[aav hg]at q3
           have VR:({w with heap:=w.heap.setIfInBounds b (.map en clock)}:World)=w:=by
            have:w.heap.setIfInBounds b (.map en clock)=w.heap:=by
             apply Array.ext_getElem?;intro i
             by_cases I:b=i
             . subst I;simp[V4,q3];simpa[V4]using q3.symm
             . rw[abb I]
            rw[this]
           have hrun:(execOp a.eval o).run P w= .ok (.value (.tuple #[])) w:=by
            rw[qk];simp only[execOp,resolve,invoke,builtin,Builtin.delete_];simp[run_underlying g,q2,pX q3,vk,fQ q4,c1,c2,Ec _ q3,VR]
           exact⟨_,_,A,ρ,.inl hrun,J.sub cW,⟨#[],rfl,rfl,ak⟩,dA.refl _ _,dD.refl _,bY.refl _ _⟩
        . simp at h
      . simp at h
    . simp at h
  . simp at h
 ·
  rename_i t x;split at h
  . rename_i id N;split at h
    . rename_i kt et es clock g R;refine⟨_,_,?_,h⟩;intro M A ρ a w L O J;have vm:=RV.at O J x;rw[N]at vm;obtain⟨b,en,q1,q2,q3,q4,q5⟩:=iT J R vm;obtain⟨r1,r2⟩:=Rel.acE J (.mapIter (some b) clock #[] clock)
      have hrun:(execOp a.eval o).run P w= .ok (.value (.pointer (some ⟨w.heap.size,0,none⟩))) (w.alloc (.mapIter (some b) clock #[] clock)):=by
       rw[qk];simp[execOp,Instr.range,run_underlying g,q2,pX q3]
      refine⟨_,_,A,ρ,.inl hrun,r1.sub cW,⟨⟨b,w.heap.size,clock,clock,q1,rfl,ak,λhA=>?_,heap_alloc_new w _⟩,rfl⟩,r2,dD.refl _,bY.refl _ _⟩;have:=J.bound _ hA;omega
    . simp at h
  . simp at h
 ·
  rename_i x;split at h
  . rename_i id N;split at h
    . rename_i clock R;refine⟨_,_,?_,h⟩;intro M A ρ a w L O J;have vi:=RV.at O J x;rw[N]at vi;obtain⟨b,r,since,last,F,k2,k3,k4,k5⟩:=vi.1;obtain⟨b',en,g1,g2,g3,g4,g5,g6⟩:=J.heap id _ R;rw[F]at g1;simp only[ii,Loc.gD.injEq]at g1;subst g1
      have ou:en= #[]:=by
       apply ael;simpa using g5
      subst ou;have MZ:(getObj r).run P w= .ok (.mapIter (some b) since #[] last) w:=by simp[getObj,Sem.run,k5]
      have hrun:(execOp a.eval o).run P w= .ok (.value (.tuple #[.bool false])) w:=by
       rw[qk];simp only[execOp,Instr.next,k2];simp[MZ,pX g4,Question.forced]
      exact⟨_,_,A,ρ,.inl hrun,J.sub cW,⟨_,rfl,rfl,λk u y g B=>by
       match k with
       |0=>simp at g B;subst g;subst B;exact RW.bT false
       |k+1=>simp at g⟩,dA.refl _ _,dD.refl _,bY.refl _ _⟩
    . simp at h
  . simp at h
 ·
  rename_i f first eE
  split at h
  . rename_i x C2 aDv;split at h
    . rename_i b ts YX;refine⟨_,_,?_,h⟩;intro M A ρ a w L O J;have vx:=RV.at O J x;have ea:first= #[x]:=by rw[<-aan (xs:=first),C2]
      have et:eE= #[]:=by rw[<-aan (xs:=eE),aDv]
      subst ea;subst et
      have hrun:(execOp a.eval o).run P w= .ok (.value (.func (.func f) #[a.eval x] #[])) w:=by
       rw[qk];simp[execOp,Instr.makeFunc]
      exact⟨_,_,A,ρ,.inl hrun,J.sub cW,⟨⟨_,rfl,Rr YX vx⟩,rfl⟩,dA.refl _ _,dD.refl _,bY.refl _ _⟩
    . simp at h
  . exact other h
 ·
  rename_i args lB;split at h
  . rename_i s x t t' hargs mm;split at h
    . rename_i ik Ev;split at h
      . rename_i m e S N g;split at h
        . rename_i size bytes z hT d;obtain⟨D,h⟩:=cj h;rw[cM]at h;refine⟨_,_,?_,h⟩;intro M A ρ a w L O J;have vs:=RV.at O J s;rw[S]at vs;have vx:=V.lK N (RV.at O J x);have hsv:a.eval s= .slice none 0 0:=V.bR (v:= .slice none 0 0) rfl vs;have ea:args= #[s,x]:=jh
          have et:lB= #[t,t']:=agd
          subst ea;subst et;obtain⟨inf,zv,z1,z2,z3,z4,z5,z6⟩:=qZ hT;obtain⟨aIP,zv',y1,y2,y3,y4,y5⟩:=gJ d w A ρ;rw[z1]at y1;simp only[ii]at y1;subst y1;rw[z2]at y2;simp only[ii]at y2;subst y2;obtain⟨aKn,hc3⟩:=LD _ _▸D;obtain⟨Sl,M4⟩:=LD _ _▸aKn;have g2:=abp M4;have g3:=abp hc3;have hsize:z.length=size:=by rw[<-y4];exact z3
          have hrun:=pU (P:=P) (ty:=o.type) g Ev z1 z2 (m+1) aa aa g3 (by rw[z4];exact g2) w;have hge:=grownCap_ge w (m+1) 0 e;obtain⟨Y,Z,e3⟩:=pL y5 (m+1);have hlen:(List.replicate (m+1) z).length=m+1:=ak
          obtain⟨l,ρ',r1,r2,r3,r4,r5⟩:=nV (st:=⟨n,L,hp⟩) (e:=e) (z:=zv.cells) (cap:=grownCap w (m+1) 0 e) (zs:=List.replicate (m+1) z) (vs:=(Builtin.zeroCells zv.cells (m+1)).toList) (size:=size) J (ww ctr) z5
           (λel hel=>by rw[ack hel];exact hsize)
           (by rw[abZ,size_zeroCells,z5,hlen]) (by rw[hlen];exact hge)
           (λi el j k I Q=>by
             obtain⟨y,B,zi,AX⟩:=e3 i el j k I Q;refine⟨y,?_,zi,AX⟩;rw[aaN, <-hsize]
             have ez:Builtin.zeroCells zv.cells (m+1)=(Array.range ((m+1) * z.length)).map λk=>zv.cells[k % zv.cells.size]! :=by
              unfold Builtin.zeroCells;have:zv.cells.size=z.length:=by rw[y3,y4]
              rw[this]
             rw[ez];exact B)
          rw[hlen]at r1 r2 r3;simp only[aan]at r1 r2 r3;refine⟨_,_,l,ρ',.inl ?_,r1.sub kD,r2,r3,r4,r5⟩;rw[qk];have hvx:a.eval x= .int .i64 ((m+1:Nat):Int):=vx
          have TB:(execOp a.eval (bare (Op.call ⟨.builtin .append, #[s,x], #[t,t']⟩) o.type)).run P w=((Builtin.append_ #[t,t'] o.type #[a.eval s,a.eval x]).run P w).andThen λv w'=> .ok (.value v) w':=by
           simp[execOp,resolve,invoke,builtin]
          rw[TB,hsv,hvx,hrun];rfl
        . simp at h
      . simp at h
    . exact other h
  . exact other h
 ·
  rename_i bo t x y t';split at h
  . rename_i id sz i j e N B g
    have abA:∀ (b:Addr) (w:World),(Op.equal t (.pointer (some b)) (.pointer none)).run P w= .ok false w:=by
     intro b w;show(Op.equalIn 10000 t (.pointer (some b)) (.pointer none)).run P w=_;unfold Op.equalIn;simp[run_underlying g]
    have fin:∀ (c:Bool),(∀ (b:Addr) (w:World),(binOp bo t (.pointer (some b)) (.pointer none)).run P w= .ok (.bool c) w)->NQ P n o tm hp ctr (bV c) hp:=by
     intro c D M A ρ a w L O J;have vx:=RV.at O J x;rw[N]at vx;have vy:=RV.at O J y;rw[B]at vy;obtain⟨b,_,G⟩:=vx.1;have hyv:a.eval y= .pointer none:=V.bR (v:= .pointer none) rfl vy
     have hg:(eqGuard bo t x y (.pointer (some ⟨b,i * sz+j,none⟩)) (.pointer none)).run P w= .ok () w:=by
      unfold eqGuard;cases bo<;>simp
     have hrun:(execOp a.eval o).run P w= .ok (.value (.bool c)) w:=by
      rw[qk];simp only[execOp,G,hyv,Sem.run_bind,hg,Result.andThen_ok,D,Sem.run_pure]
     exact⟨_,w,A,ρ,.inl hrun,J.sub cW,RV.ofValue w A ρ (.bool c),dA.refl _ _,dD.refl _,bY.refl _ _⟩
    split at h
    . exact⟨_,_,fin false (λb w=>by simp[binOp,abA]),h⟩
    . exact⟨_,_,fin true (λb w=>by simp[binOp,abA]),h⟩
    . simp at h
  . exact other h
 . exact other h
end Go.aW
namespace Go.aW
open Go
variable{P:Program}{M A:agt}{ρ:Env}{F:agt}{st:St}{a:Act}{w:World}
def OF(a:List Nat)(lo:Nat)(fs:List kT):Bool:=
 (List.range fs.length).all λj=>match fs[j]? with
   |some g=>(List.range j).all λi=>match fs[i]? with
    |some f=>(a.getD (lo+j) 0).testBit (lo+i)||f.apart g|none=>true
   |none=>true
variable{lo:Nat}
def Cn{a:List Nat}{fs:List kT}(h:OF a lo fs=true){i j:Nat}{f g:kT}(A:i < j)(R:fs[i]? =some f)(hg:fs[j]? =some g):
 (a.getD (lo+j) 0).testBit (lo+i)=true\/f.apart g=true:=by
 unfold OF at h;have Q:j < fs.length:=(jl.1 hg).1;have:=yt.1 h j (aap.2 Q);simp only[hg]at this;have:=yt.1 this i (aap.2 A);simp only[R,ab6]at this;exact this
def Ri{ops:Array Oper}{n base m:Nat}{tmT:Nat->TS}{hpT:Nat->HS}{v:Nat->V}{fs:List kT}{Q:Exit->Act->World->Prop}
 (hlm:lo+m<=ops.size)
 (hstep:∀i o,i < m->ops[lo+i]? =some o->ji P ops o n (tmT i) (hpT i) (base+4 * i) (v i) (hpT (i+1))/\(∀t,find (tmT (i+1)) t=find (eJ (tmT i) o.dst (v i)) t)/\
   ∃f,fs[i]? =some f/\f.dst=o.dst/\(∀t,t∈names ops o->t∈f.nm)/\(∀k,k∈lZ (St.get ⟨n,tmT i,hpT i⟩) o->k∈f.rd)/\(∀k,k∈zQ (St.get ⟨n,tmT i,hpT i⟩) (base+4 * i) o->k∈f.wr))
 (hE:∀i o,ops[i]? =some o-> ∀e,e∈bP o->e < i)
 (hok:OF (pF (ops.toList.map bP) []) lo fs=true)
 (MU:∀k,lo+m<=k->k < ops.size-> ∀i,i < m->((pF (ops.toList.map bP) []).getD k 0).testBit (lo+i)=true)
 (cP:Rel M A ρ (bJ base) ⟨n,tmT 0,hpT 0⟩ a w)
 (VV:∀ (fuel:Nat) (listed:Array Bool) (a':Act) (w':World),listed.size=ops.size->(∀i,i < ops.size->listed.getD i false=decide (i < lo+m))->ops.size - (lo+m)<=fuel->
   QR M A ρ w (λst c=>st=⟨n,tmT m,hpT m⟩/\c=base+4 * m) a' w'->wpAny P .any ops Q fuel listed a' w'):
 ∀ (fuel:Nat) (listed:Array Bool),listed.size=ops.size->(∀i,i < ops.size->listed.getD i false=decide (i < lo))->ops.size - lo<=fuel->wpAny P .any ops Q fuel listed a w:=by
 let N:=m
 let dst:Nat->Option Nat:=λi=>(ops[lo+i]?).bind (·.dst)
 let wr:Nat->List Nat:=λi=>((ops[lo+i]?).map λo=>zQ (St.get ⟨n,tmT i,hpT i⟩) (base+4 * i) o).getD []
 have hop:∀i,i < N-> ∃o,ops[lo+i]? =some o:=λi I=>by
  have:lo+i < ops.size:=by simp only[N]at I;omega
  exact⟨ops[lo+i],by simp[this]⟩
 have C4:∀i o,ops[lo+i]? =some o->dst i=o.dst:=λi o h=>by simp only[dst,h,Tf]
 have hwr:∀i o,ops[lo+i]? =some o->wr i=zQ (St.get ⟨n,tmT i,hpT i⟩) (base+4 * i) o:=by
  intro i o h;simp only[wr,h,wv,YJ]
 have CX:∀i,i < N-> ∀k,¬k∈wr i->find (hpT (i+1)) k=find (hpT i) k:=by
  intro i I k Z;obtain⟨o,ho⟩:=hop i I;obtain⟨O,_⟩:=hstep i o I ho;obtain⟨_,_,B⟩:=O.loc (tm2:=tmT i) (hp2:=hpT i) (λ_ _=>rfl) (λ_ _=>rfl) (λ_ _=>rfl);rw[hwr i o ho]at Z;exact(B.2 k Z).1
 have VO:∀i,i < N-> ∀t,find (tmT (i+1)) t=find (eJ (tmT i) (dst i) (v i)) t:=by
  intro i I t;obtain⟨o,ho⟩:=hop i I;rw[(hstep i o I ho).2.1 t,C4 i o ho]
 have hEs:∀ (i:Nat) (es:List Nat),(ops.toList.map bP)[i]? =some es-> ∀e,e∈es->e < i:=by
  intro i es h e H;simp only[yu,aaN,jU]at h;obtain⟨o,ho,rfl⟩:=h;exact hE i o ho e H
 let Lg:Array Bool->Nat->Bool:=λlisted i=>listed.getD i false
 let eG:Array Bool->Nat->Bool:=λlisted i=>listed.getD (lo+i) false
 let Fr:(Nat->Bool)->Nat->Prop:=λL k=>base+4 * N<=k\/ ∃j,j < N/\L j=false/\base+4 * j<=k/\k < base+4 * j+4
 have lN:∀ {L:Nat->Bool} {i:Nat},i < ops.size->(∀k o,ops[k]? =some o->L k=true-> ∀e,e∈bP o->L e=true)->(∀o,ops[i]? =some o-> ∀e,e∈bP o->L e=true)->
  ∀j,((pF (ops.toList.map bP) []).getD i 0).testBit j=true->L j=true:=by
  intro L i I dW Y6 j G;refine(wj hEs i zh (λk es _ Sr kZ e H=>?_) (λes kZ e H=>?_) j G).1
  . simp only[yu,aaN,jU]at kZ;obtain⟨o,ho,rfl⟩:=kZ;exact dW k o ho Sr e H
  . simp only[yu,aaN,jU]at kZ;obtain⟨o,ho,rfl⟩:=kZ;exact Y6 o ho e H
 have finish:∀ (fuel:Nat) (listed:Array Bool) (a':Act) (w':World) (l:agt) (ρ':Env),listed.size=ops.size->(∀i,i < lo->Lg listed i=true)->(∀i,lo+m<=i->i < ops.size->Lg listed i=false)->ops.size - (lo+m)<=fuel->(∀i,i < N->eG listed i=true)->
  Rel M l ρ' (Fr (eG listed)) ⟨n,tY dst v (tmT 0) (eG listed) N,ue wr hpT (hpT 0) (eG listed) N⟩ a' w'->dA M w w'->dD ρ ρ'->bY A l w->wpAny P .any ops Q fuel listed a' w':=by
  intro fuel listed a' w' l ρ' hsz M5 V7 TA hall J eU cI D;refine VV fuel listed a' w' hsz (λi I=>?_) TA ⟨⟨n,tmT m,hpT m⟩,base+4 * m,l,ρ',⟨rfl,rfl⟩,?_,eU,cI,D⟩
  . by_cases O:i < lo
    . rw[show listed.getD i false=true from M5 i O];simp;omega
    . by_cases Y:i < lo+m
      . have:=hall (i - lo) (by simp only[N];omega);simp only[eG]at this;rw[show lo+(i - lo)=i by omega]at this;rw[this];simp[Y]
      . rw[show listed.getD i false=false from V7 i aa I];simp;omega
  have O:Rel M l ρ' (Fr (eG listed)) ⟨n,tmT m,hpT m⟩ a' w':=J.forget rfl (λt u F=>by
   rw[show find (⟨n,tY dst v (tmT 0) (eG listed) N,ue wr hpT (hpT 0) (eG listed) N⟩:St).tmps t=find (tmT N) t from wE dst v (tmT 0) tmT N rfl VO (eG listed) t N (ww _) hall];exact F) (λk b G=>by
   rw[show find (⟨n,tY dst v (tmT 0) (eG listed) N,ue wr hpT (hpT 0) (eG listed) N⟩:St).heap k=find (hpT N) k from xA wr hpT (hpT 0) N rfl CX (eG listed) k N (ww _) hall];exact G)
  exact O.sub (λk Z=> .inl Z)
 have main:∀ (c fuel:Nat) (listed:Array Bool) (a':Act) (w':World) (l:agt) (ρ':Env),listed.size=ops.size->(∀i,i < lo->Lg listed i=true)->(∀i,lo+m<=i->i < ops.size->Lg listed i=false)->tv (eG listed) N=c->c+(ops.size - (lo+m))<=fuel->
  (∀k o,ops[k]? =some o->Lg listed k=true-> ∀e,e∈bP o->Lg listed e=true)->
  Rel M l ρ' (Fr (eG listed)) ⟨n,tY dst v (tmT 0) (eG listed) N,ue wr hpT (hpT 0) (eG listed) N⟩ a' w'->dA M w w'->dD ρ ρ'->bY A l w->
  wpAny P .any ops Q fuel listed a' w':=by
  intro c
  induction c with
  |zero=>
   intro fuel listed a' w' l ρ' hsz M5 V7 M3 TA dW J eU cI D;exact finish fuel listed a' w' l ρ' hsz M5 V7 aa (zF M3) J eU cI D
  |succ c ih=>
   intro fuel listed a' w' l ρ' hsz M5 V7 M3 TA dW J eU cI D;obtain⟨fuel,rfl⟩: ∃f,fuel=f+1:=⟨fuel - 1,aa⟩
   have hex: ∃i,i < N/\eG listed i=false:=by
    by_cases h: ∃i,i < N/\eG listed i=false
    . exact h
    . exfalso;have:∀i,i < N->eG listed i=true:=λi I=>by cases h':eG listed i with|true=>rfl|false=>exact absurd ⟨i,I,h'⟩ h
      have z:∀k,k<=N->tv (eG listed) k=0:=by
       intro k
       induction k with
       |zero=>intro _;rfl
       |succ k ihk=>intro Z;simp only[tv,ihk aa,this k aa];rfl
      rw[z N (ww _)]at M3;omega
   refine⟨λKs=>?_,λig I=>?_⟩
   . exfalso;obtain⟨i,I,y,MT⟩:=exists_least hex;obtain⟨o,ho⟩:=hop i I
     have:lo+i∈Region.ready .any ops listed:=by
      rw[mem_ready];refine⟨?_,o,ho,λe H G=>?_⟩
      . simp only[eG,aae]at y⊢;have mU:lo+i < listed.size:=by have:=(aat.1 ho).1;omega
        simpa[mU]using y
      . have r:e.on∈bP o:=by simp only[bP,aad,acu];exact⟨e,⟨C0,G⟩,rfl⟩
        have hlt:=hE (lo+i) o ho _ r
        by_cases O:e.on < lo
        . exact M5 _ O
        . have:=MT (e.on - lo) aa;simp only[eG]at this;rw[show lo+(e.on - lo)=e.on by omega]at this;exact this
     rw[Ks]at this;simp at this
   . rw[mem_ready]at I;obtain⟨z,o,hog,C3⟩:=I;have aqU:ig < ops.size:=(aat.1 hog).1
     have adP:Lg listed ig=false:=by
      simp only[Lg,aae]at z⊢;have mU:ig < listed.size:=aa
      simpa[mU]using z
     have Y6:∀e,e∈bP o->Lg listed e=true:=by
      intro e H;simp only[bP,aad,acu]at H;obtain⟨ed,⟨O,Y⟩,rfl⟩:=H;exact C3 ed rW Y
     have hge:lo<=ig:=by
      rcases aa8 ig lo with h|h
      . rw[M5 ig h]at adP;simp at adP
      . exact h
     have hlt:ig < lo+m:=by
      rcases aa8 ig (lo+m)with h|h
      . exact h
      . exfalso;obtain⟨i,I,y⟩:=hex;have G:=MU ig h aqU i I;have:=lN aqU dW (λo' BI=>by rw[hog]at BI;simp only[ii]at BI;subst BI;exact Y6) _ G;simp only[eG]at y;rw[show Lg listed (lo+i)=false from y]at this;simp at this
     obtain⟨i,rfl⟩: ∃i,ig=lo+i:=⟨ig - lo,aa⟩;have HQ:i < N:=by simp only[N];omega
     have ho:ops[lo+i]? =some o:=hog;have Ss:eG listed i=false:=adP;obtain⟨hst,aI8,f,R,fd,fn,fr,fw⟩:=hstep i o HQ ho
     have order:∀j oj g,j≠i->j < N->ops[lo+j]? =some oj->fs[j]? =some g->(f.apart g=true\/g.apart f=true)\/(j < i/\eG listed j=true)\/(i < j/\eG listed j=false):=by
      intro j oj g iw hjN vS mM;have hjS:lo+j < ops.size:=(aat.1 vS).1;rcases adj iw with hlt|hgt
      . rcases Cn hok hlt mM R with G|G
        . exact .inr (.inl ⟨hlt,lN aqU dW (λo' BI=>by rw[ho]at BI;simp only[ii]at BI;subst BI;exact Y6) (lo+j) G⟩)
        . exact .inl (.inr G)
      . rcases Cn hok hgt R mM with G|G
        . refine .inr (.inr ⟨hgt,?_⟩)
          cases hLj:eG listed j with
          |false=>rfl
          |true=>
           have:=lN hjS dW (λo' BI=>dW (lo+j) o' BI hLj) (lo+i) G;rw[adP]at this;simp at this
        . exact .inl (.inl G)
     have Dd:∀j,j < N-> ∃oj g,ops[lo+j]? =some oj/\fs[j]? =some g/\g.dst=dst j/\ ∀k,k∈wr j->k∈g.wr:=by
      intro j K;obtain⟨oj,vS⟩:=hop j K;obtain⟨_,_,g,g1,g2,_,_,g5⟩:=hstep j oj K vS;exact⟨oj,g,vS,g1,by rw[g2,C4 j oj vS],λk Z=>g5 k (by rw[hwr j oj vS]at Z;exact Z)⟩
     have apart_spec:∀ {f g:kT},(f.apart g=true\/g.apart f=true)->(∀t,f.dst=some t->g.dst=some t->False)/\(∀t,g.dst=some t->t∈f.nm->False)/\(∀k,k∈g.wr->k∈f.rd->False)/\(∀k,k∈g.wr->k∈f.wr->False):=by
      intro f g h;rcases h with h|h<;>simp only[kT.apart,LD]at h<;>obtain⟨⟨⟨⟨⟨O,Y⟩,B⟩,s⟩,d⟩,h6⟩:=h
      . exact⟨λt a b=>dK (x:=t) B afs agr,λt a b=>dK (x:=t) Y afs b,λk a b=>dK d a b,λk a b=>dK h6 b a⟩
      . exact⟨λt a b=>dK (x:=t) B agr afs,λt a b=>dK (x:=t) O afs b,λk a b=>dK s a b,λk a b=>dK h6 a b⟩
     have NO:∀t,t∈names ops o->find (tY dst v (tmT 0) (eG listed) N) t=find (tmT i) t:=by
      intro t ht;rw[sr dst v (tmT 0) (eG listed) (λj=>decide (j < i)) t N ?_,B8 dst v (tmT 0) i t N (acz HQ),wE dst v (tmT 0) tmT N rfl VO _ t i (acz HQ) (λj K=>by simpa using K)];intro j K HU
      by_cases iw:j=i
      . subst iw;rw[Ss];simp
      . obtain⟨oj,g,vS,mM,gd,gw⟩:=Dd j K;rcases order j oj g iw K vS mM with hap|⟨O,Y⟩|⟨O,Y⟩
        . exact((apart_spec hap).2.1 t (by rw[gd,HU]) (fn t ht)).elim
        . rw[Y];simp[O]
        . rw[Y];simp;omega
     have DG:∀k,(k∈f.rd\/k∈f.wr)->find (ue wr hpT (hpT 0) (eG listed) N) k=find (hpT i) k:=by
      intro k Z;rw[sR wr hpT (hpT 0) (eG listed) (λj=>decide (j < i)) k N ?_,CV wr hpT (hpT 0) i k N (acz HQ),xA wr hpT (hpT 0) N rfl CX _ k i (acz HQ) (λj K=>by simpa using K)];intro j K HU
      by_cases iw:j=i
      . subst iw;rw[Ss];simp
      . obtain⟨oj,g,vS,mM,gd,gw⟩:=Dd j K;rcases order j oj g iw K vS mM with hap|⟨O,Y⟩|⟨O,Y⟩
        . rcases Z with Z|Z
          . exact((apart_spec hap).2.2.1 k (gw k HU) Z).elim
          . exact((apart_spec hap).2.2.2 k (gw k HU) Z).elim
        . rw[Y];simp[O]
        . rw[Y];simp;omega
     have V0:∀k,k∈four (base+4 * i)->k∈f.wr:=λk Z=>fw k (by simp only[zQ,yl];exact .inl Z);obtain⟨sS,apX,hal⟩:=hst.loc (tm2:=tY dst v (tmT 0) (eG listed) N) (hp2:=ue wr hpT (hpT 0) (eG listed) N) NO (λk Z=>DG k (.inl (fr k Z))) (λk Z=>DG k (.inr (V0 k Z)));rw[<-hwr i o ho]at hal;refine ji.sound ho apX J (λk O Y=> .inr ⟨i,HQ,Ss,O,Y⟩) ?_;intro a2 w2 A2 ρ2 r1 r2 r3 r4
     have MP:∀j,eG (listed.setIfInBounds (lo+i) true) j=if j=i then true else eG listed j:=by
      intro j
      by_cases iw:j=i
      . subst iw;have:lo+j < listed.size:=aa
        simp[eG,aae,this]
      . simp only[eG,iw,if_false];exact getD_set_ne false (λe=>iw aa)
     have VQ:∀k,k≠lo+i->Lg (listed.setIfInBounds (lo+i) true) k=Lg listed k:=λk Z=>getD_set_ne false (λe=>Z e.symm);have C7:eG (listed.setIfInBounds (lo+i) true) i=true:=by rw[MP];simp
     have rJ:∀j,j≠i->eG (listed.setIfInBounds (lo+i) true) j=eG listed j:=λj K=>by rw[MP,if_neg K]
     have later:∀j,i < j->j < N->(∀oj g,ops[lo+j]? =some oj->fs[j]? =some g->(f.apart g=true\/g.apart f=true)->False)->eG (listed.setIfInBounds (lo+i) true) j=false:=by
      intro j O Y B;obtain⟨oj,g,vS,mM,gd,gw⟩:=Dd j Y;rw[rJ j aa];rcases order j oj g aa Y vS mM with hap|⟨s,_⟩|⟨_,d⟩
      . exact(B oj g vS mM hap).elim
      . omega
      . exact d
     refine ih fuel (listed.setIfInBounds (lo+i) true) a2 w2 A2 ρ2 (by simpa using hsz) (λk Z=>by rw[VQ k aa];exact M5 k Z) (λk Z hk'=>by rw[VQ k aa];exact V7 k Z hk') ?_ aa ?_ ?_ (eU.trans r2) (cI.trans r3) (D.trans r4 eU.size)
     . have:=Dt (L:=eG listed) (L':=eG (listed.setIfInBounds (lo+i) true)) Ss C7 rJ (k:=N) HQ;omega
     . intro k ok' A4 Sr e H
       by_cases rH:k=lo+i
       . subst rH;rw[ho]at A4;simp only[ii]at A4;subst A4;exact getD_set_true (Y6 e H)
       . rw[VQ k rH]at Sr;exact getD_set_true (dW k ok' A4 Sr e H)
     . refine(Rel.forget (st':=⟨n,tY dst v (tmT 0) (eG (listed.setIfInBounds (lo+i) true)) N,ue wr hpT (hpT 0) (eG (listed.setIfInBounds (lo+i) true)) N⟩) r1 rfl (λt u F=>?_) (λk b G=>?_)).sub (λk Z=>?_)
       . simp only[kp];split
         . rename_i S
           have uT:=GC dst v (tmT 0) (eG (listed.setIfInBounds (lo+i) true)) t i (by rw[C4 i o ho];exact S) C7 N HQ (λj O Y B=>later j O Y (λoj g vS mM hap=>by
            obtain⟨_,g',_,zk,gd,_⟩:=Dd j Y;rw[mM]at zk;simp only[ii]at zk;subst zk;exact(apart_spec hap).1 t (by rw[fd];exact S) (by rw[gd];exact B)))
           rw[<-uT];exact F
         . rename_i S
           rw[sr dst v (tmT 0) (eG listed) (eG (listed.setIfInBounds (lo+i) true)) t N (λj K HU=>by
            by_cases iw:j=i
            . subst iw;rw[C4 j o ho]at HU;exact absurd HU S
            . exact(rJ j iw).symm)]
           exact F
       . by_cases Z:k∈wr i
         . have hkw:k∈f.wr:=fw k (by rw[<-hwr i o ho];exact Z)
           have uT:=HN wr hpT (hpT 0) (eG (listed.setIfInBounds (lo+i) true)) k i Z C7 N HQ (λj O Y B=>later j O Y (λoj g vS mM hap=>by
            obtain⟨_,g',_,zk,_,gw⟩:=Dd j Y;rw[mM]at zk;simp only[ii]at zk;subst zk;exact(apart_spec hap).2.2.2 k (gw k B) hkw))
           rw[hal.1 k Z, <-uT];exact G
         . rw[(hal.2 k Z).2,sR wr hpT (hpT 0) (eG listed) (eG (listed.setIfInBounds (lo+i) true)) k N (λj K HU=>by
            by_cases iw:j=i
            . subst iw;exact absurd HU Z
            . exact(rJ j iw).symm)]
           exact G
       . refine⟨?_,?_⟩
         . rcases Z with Z|⟨j,O,Y,B⟩
           . exact .inl Z
           . by_cases iw:j=i
             . subst iw;rw[C7]at Y;simp at Y
             . rw[rJ j iw]at Y;exact .inr ⟨j,O,Y,B⟩
         . rintro⟨q1,q2⟩;rcases Z with Z|⟨j,O,Y,B,s⟩
           . omega
           . by_cases iw:j=i
             . subst iw;rw[C7]at Y;simp at Y
             . omega
 intro fuel listed hsz U TA
 have hLf:∀i,i < N->eG listed i=false:=by
  intro i I;simp only[eG];rw[U (lo+i) (by simp only[N]at I;omega)];simp
 have aDt:∀k,k<=N->tv (eG listed) k=k:=by
  intro k
  induction k with
  |zero=>intro _;rfl
  |succ k ih=>intro Z;simp only[tv,ih aa,hLf k aa];simp
 refine main m fuel listed a w A ρ hsz (λi I=>?_) (λi I hi'=>?_) (aDt N (ww _)) aa (λk o ho Sr e H=>?_) ?_ (dA.refl _ _) (dD.refl _) (bY.refl _ _)
 . show listed.getD i false=true;rw[U i aa];simp[I]
 . show listed.getD i false=false;rw[U i hi'];simp;omega
 . have Z:k < ops.size:=(aat.1 ho).1
   have O:k < lo:=by
    have:listed.getD k false=true:=Sr;rw[U k Z]at this;simpa using this
   have Y:=hE k o ho e H;show listed.getD e false=true;rw[U e aa];simp;omega
 . have eT:∀k,k<=N->tY dst v (tmT 0) (eG listed) k=tmT 0:=by
    intro k
    induction k with
    |zero=>intro _;rfl
    |succ k ih=>intro Z;simp only[tY,hLf k aa,aag,if_false,ih aa]
   have eH:∀k,k<=N->ue wr hpT (hpT 0) (eG listed) k=hpT 0:=by
    intro k
    induction k with
    |zero=>intro _;rfl
    |succ k ih=>intro Z;simp only[ue,hLf k aa,aag,if_false,ih aa]
   rw[eT N (ww _),eH N (ww _)];refine cP.sub (λk Z=>?_);simp only[bJ];rcases Z with Z|⟨j,_,_,B,_⟩<;>omega
end Go.aW
namespace Go.aW
open Go
abbrev AH(α:Type):=FuncId->Lw->HS->Nat->(V->HS->Nat->α)->α
abbrev AI(α:Type):=FuncId->Lw->HS->Nat->(V->HS->α)->α
section
variable{α:Type}(bad:α)(call:AH α)(fe:AI α)
def WA(v:V)(us:Lw)(k:FuncId->Lw->α):α:=
 match v with
 | .w (.one (.oO f U))=>k f (us++U.map λp=> .one (.ptr p.1 p.2.1 p.2.2.1 p.2.2.2))| .w (.one (.Ix f true Z))=>k f (.agg (Z.map .t)::us)| .w (.one (.Ix f false [t]))=>k f (.one (.t t)::us)
 | .w (.one (.t (.val (.func (.func f) first U))))=>ki (first.isEmpty&&U.isEmpty) (k f us) bad
 |_=>bad
def EGo(P:Program)(o:oc)(tm:Tr)(hp:HS)(ctr:Nat)(K:Tr->HS->Nat->α):α:=
 match o.op with
 | .call f j=>wsG bad (gT tm) j λA=>call f A hp ctr λv b U=>wy v λv=>o8 tm o.dst v λtm=>K tm b U| .oP x j=>wsG bad (gT tm) j λA=>WA bad (gT tm x) A λf A=>ki (enters P f) (call f A hp ctr λv b U=>wy v λv=>o8 tm o.dst v λtm=>K tm b U) bad| .raw Z w=>EX P bad Z w (gT tm) hp ctr λv b=>o8 tm o.dst v λtm=>tR (ctr+4) λc=>K tm b c
 | .append B J s x=>match gT tm s with
   | .w (.one (.own id N 0 len))=>match find hp id with
     |some (.row Q M)=>jG (jB hp id (.row Q (M.take len))) λhp=>ER bad (.append B J s x) (gT tm) hp ctr λv b=>o8 tm o.dst v λtm=>tR (ctr+4) λc=>K tm b c|_=>bad
   |_=>ER bad (.append B J s x) (gT tm) hp ctr λv b=>o8 tm o.dst v λtm=>tR (ctr+4) λc=>K tm b c
 | .slice B x H I=>match gT tm x with
   | .w (.one (.t (.val (.slice none 0 0))))=>match jI (H.map (gT tm)) 0,jI (I.map (gT tm)) 0 with
     |some 0,some 0=>o8 tm o.dst (.w (.one (.t (.val (.slice none 0 0))))) λtm=>tR (ctr+4) λc=>K tm hp c|_,_=>bad
   |_=>ER bad (.slice B x H I) (gT tm) hp ctr λv b=>o8 tm o.dst v λtm=>tR (ctr+4) λc=>K tm b c
 |r=>ER bad r (gT tm) hp ctr λv b=>o8 tm o.dst v λtm=>tR (ctr+4) λc=>K tm b c
def EOp(P:Program)(o:oc)(tm:Tr)(hp:HS)(ctr:Nat)(K:Tr->HS->Nat->α):α:=
 match o.guard with
 |none=>EGo bad call P o tm hp ctr K
 |some (d,e)=>
  match tm.get (key d)with
  |some (.w (.one (.t (.val (.bool b)))))=>ki (b==e) (EGo bad call P o tm hp ctr K) (o8 tm o.dst (.fB []) λtm=>K tm hp ctr)|some (.fB [])=>o8 tm o.dst (.fB []) λtm=>K tm hp ctr|_=>bad
def aiS(P:Program):List oc->Tr->HS->Nat->(Tr->HS->Nat->α)->α
 | [],d,F,e,K=>K d F e|o::r,d,F,e,K=>EOp bad call P o d F e λd F e=>aiS P r d F e K
def aiT(P:Program)(o:oc)(tm:Tr)(hp:HS)(ctr:Nat)(K:Tr->HS->Nat->α):α:=
 match o.op with
 | .call f j=>wsG bad (gT tm) j λA=>fe f A hp ctr λv b=>wy v λv=>o8 tm o.dst v λtm=>tR (ctr+4) λc=>K tm b c| .oP x j=>wsG bad (gT tm) j λA=>WA bad (gT tm x) A λf A=>ki (enters P f) (fe f A hp ctr λv b=>wy v λv=>o8 tm o.dst v λtm=>tR (ctr+4) λc=>K tm b c) bad
 | .raw Z w=>match aK P (λx=>gT tm (eR x)) hp ctr (bare Z w)with
   |some (v,b)=>wy v λv=>o8 tm o.dst v λtm=>tR (ctr+4) λc=>K tm b c|none=>bad
 |r=>ER bad r (gT tm) hp ctr λv b=>o8 tm o.dst v λtm=>tR (ctr+4) λc=>K tm b c
def PV(o:oc)(tm:Tr)(ctr:Nat):kT:=
 let h:=if o.op.looks then o.op.lG.flatMap λx=>(gT tm x).ids else []
 ⟨o.dst,o.op.lG.filterMap aBM++(o.guard.map (·.1)).toList,h,four ctr++if o.op.wrt then h else []⟩
def auS(P:Program)(o:oc)(tm:Tr)(hp:HS)(ctr:Nat)(K:Tr->HS->Nat->α):α:=
 match o.guard with
 |none=>aiT bad fe P o tm hp ctr K
 |some (d,e)=>
  match tm.get (key d)with
  |some (.w (.one (.t (.val (.bool b)))))=>ki (b==e) (aiT bad fe P o tm hp ctr K) (o8 tm o.dst (.fB []) λtm=>tR (ctr+4) λc=>K tm hp c)|some (.fB [])=>o8 tm o.dst (.fB []) λtm=>tR (ctr+4) λc=>K tm hp c|_=>bad
def LC(P:Program):List oc->List kT->Tr->HS->Nat->(List kT->Tr->HS->Nat->α)->α
 | [],j,d,F,e,K=>K j d F e|o::r,j,d,F,e,K=>auS bad fe P o d F e λs b U=>LC P r (j++[PV o d e]) s b U K
def Ka(a:List Nat)(N j:Nat):Bool:=
 (List.range j).all (λi=>(a.getD j 0).testBit i)&& (List.range (N - (j+1))).all (λd=>(a.getD (j+1+d) 0).testBit j)
def da(a:List Nat)(N:Nat):Nat->List oc->List oc×List oc
 |_,[]=>([],[])|j,o::r=>ki (Ka a N j) ([],o::r) (o::(da a N (j+1) r).1,(da a N (j+1) r).2)
def O2(a:List Nat)(lo m N:Nat):Bool:=
 (List.range (N - (lo+m))).all λd=>(List.range m).all λi=>(a.getD (lo+m+d) 0).testBit (lo+i)
def DT(P:Program)(a:List Nat)(N:Nat):Nat->Nat->List oc->Tr->HS->Nat->(Tr->HS->Nat->α)->α
 |0,_,_,_,_,_,_=>bad
 |f+1,H,g,d,F,e,K=>
  LC bad fe P (da a N H g).1 [] d F e λj d F e=>
   ki (OF a H j&&O2 a H (da a N H g).1.length N)
    (match(da a N H g).2 with
    | []=>K d F e
    |o::r=>EOp bad call P o d F e λd F e=>DT P a N f (H+(da a N H g).1.length+1) r d F e K) bad
def WV(K:Tr->HS->Nat->α)(Q:Exit->Tr->HS->Nat->α):Exit->Tr->HS->Nat->α
 | .normal=>K|e=>Q e
def Xe(id:Nat)(Q:Exit->Tr->HS->Nat->α):Exit->Tr->HS->Nat->α
 | .exit S=>ki (Nat.beq S id) (Q .normal) (Q (.exit S))|e=>Q e
def K5(body:(Tr->HS->Nat->α)->Tr->HS->Nat->α):Nat->Tr->HS->Nat->α
 |0=>λ_ _ _=>bad|n+1=>body (K5 body n)
def E(P:Program)(fuel:Nat):Rc->(Exit->Tr->HS->Nat->α)->Tr->HS->Nat->α
 | .skip,Q,d,F,e=>Q .normal d F e| .ret,Q,d,F,e=>Q .ret d F e| .exit id,Q,d,F,e=>Q (.exit id) d F e| .seq a b,Q,d,F,e=>E P fuel a (WV (E P fuel b Q) Q) d F e
 | .cond c a b,Q,d,F,e=>
   match(gT d c).jT with
   |some v=>ki v (E P fuel a Q d F e) (E P fuel b Q d F e)|none=>bad
 | .block id b,Q,d,F,e=>E P fuel b (Xe id Q) d F e| .loop b,Q,d,F,e=>K5 bad (λh=>E P fuel b (WV h Q)) fuel d F e| .region g,Q,d,F,e=>aiS bad call P g d F e (Q .normal)| .draw g B,Q,d,F,e=>DT bad call fe P (pF B []) g.length (g.length+1) 0 g d F e (Q .normal)
end
def jH(n:Nat):Rc->Bool
 | .seq a b=>jH n a&&jH n b| .cond _ a b=>jH n a&&jH n b| .block _ b=>jH n b| .loop b=>jH n b| .region g=>g.all λo=>jd n o.dst| .draw g _=>g.all λo=>jd n o.dst|_=>true
variable{P:Program}{M A:agt}{ρ:Env}{F:agt}{st:St}{a:Act}{w:World}
def At(M A:agt)(ρ:Env)(w:World)(n:Nat)(tm:Tr)(hp:HS)(ctr:Nat)(G:Act)(w':World):Prop:=
 ∃L l s,ir tm L/\Rel M l s (bJ ctr) ⟨n,L,hp⟩ G w'/\dA M w w'/\dD ρ s/\bY A l w
def At.trans{y:agt}{d:Env}{v w':World}{n:Nat}{tm:Tr}{hp:HS}{ctr:Nat}{G:Act}(h:At M y d v n tm hp ctr G w')(H:dA M w v)(R:dD ρ d)(hg:bY A y w):At M A ρ w n tm hp ctr G w':=by
 obtain⟨L,l,s,O,Y,B,g,U⟩:=h;exact⟨L,l,s,O,Y,H.trans B,R.trans g,hg.trans U H.size⟩
variable{n ctr:Nat}{L:TS}{ops:Array Oper}{o:Oper}
def At.here{tm:Tr}{hp:HS}(Q:ir tm L)(h:Rel M A ρ (bJ ctr) ⟨n,L,hp⟩ a w):At M A ρ w n tm hp ctr a w:=
 ⟨L,A,ρ,Q,h,dA.refl _ _,dD.refl _,bY.refl _ _⟩
def Run(P:Program)(n:Nat)(c:Code)(tm:Tr)(hp:HS)(ctr:Nat)(e:Exit)(tm':Tr)(hp':HS)(U:Nat):Prop:=
 ∀ (M A:agt) (ρ:Env) (a:Act) (w:World) (L:TS),ir tm L->Rel M A ρ (bJ ctr) ⟨n,L,hp⟩ a w->
  c.wp P (λo G j=>o=e/\At M A ρ w n tm' hp' U G j) a w
def tG(P:Program)(call:AH Bool):Prop:= ∀f A F e K,call f A F e K=true-> ∃v b U,kU P f A F e v b U/\K v b U=true
def oV(P:Program)(fe:AI Bool):Prop:= ∀f A F e K,fe f A F e K=true-> ∃v b,gY P F e f A v b/\K v b=true
def kS(ops:Array Oper)(o:Oper)(g:Option (Nat×Bool)):Prop:=
 (o.guard=none/\g=none)\/ ∃j e d,o.guard=some (j,e)/\(ops[j]?).bind (·.dst)=some d/\g=some (d,e)
def DI(P:Program)(n:Nat)(ops:Array Oper)(i:Nat)(tm:Tr)(hp:HS)(ctr:Nat)(tm':Tr)(hp':HS)(U:Nat):Prop:=
 ∀ (M A:agt) (ρ:Env) (a:Act) (w:World) (L:TS) (Q:Exit->Act->World->Prop) (H:Act->World->Prop),ir tm L->Rel M A ρ (bJ ctr) ⟨n,L,hp⟩ a w->
  (∀G j,At M A ρ w n tm' hp' U G j->H G j)->wpOp P ops Q i H a w
def ym(P:Program)(n:Nat)(ops:Array Oper)(o:Oper)(tm:Tr)(hp:HS)(ctr:Nat)(v:V)(hp':HS):Prop:=
 ∀L,ir tm L->ji P ops o n L hp ctr v hp'
def ym.run{i:Nat}{tm:Tr}{hp hp':HS}{v:V}(I:ops[i]? =some o)(h:ym P n ops o tm hp ctr v hp'):
 DI P n ops i tm hp ctr (Cl tm o.dst v) hp' (ctr+4):=by
 intro M A ρ a w L Q H R J Z;refine ji.sound I (h L R) J (λk O _=>O) ?_;intro G j l s y B Y b;exact Z G j ⟨_,l,s,R.put o.dst v,y.sub kD,B,Y,b⟩
def Cb{g:Option (Nat×Bool)}{tm:Tr}{hp:HS}(S:jd n o.dst=true)(c:kS ops o g)
 (hg: ∃d e,g=some (d,e)/\((∃b,tm.get (key d)=some (bV b)/\(b==e)=false)\/tm.get (key d)=some (.fB []))):ym P n ops o tm hp ctr (.fB []) hp:=by
 intro L R;obtain⟨d,e,rfl,hg⟩:=hg;rcases c with⟨_,h⟩|⟨j,a,l,O,Y,B⟩
 . simp at h
 . simp only[ii,uu]at B;obtain⟨rfl,rfl⟩:=B;refine⟨S,?_⟩;rcases hg with⟨b,G,s⟩|G
   . rw[<-R d]at G;simp only[bH,O,Y,G,s];exact⟨trivial,trivial⟩
   . rw[<-R d]at G;simp only[bH,O,Y,G];exact⟨trivial,trivial⟩
def guard_true{g:Option (Nat×Bool)}{tm:Tr}(R:ir tm L)(c:kS ops o g)
 (hg:g=none\/ ∃d e b,g=some (d,e)/\tm.get (key d)=some (bV b)/\(b==e)=true):bH ops o L=some true:=by
 rcases c with⟨z,rfl⟩|⟨j,e,d,O,Y,rfl⟩
 . simp[bH,z]
 . rcases hg with h|⟨l,a,b,B,s,U⟩
   . simp at h
   . simp only[ii,uu]at B;obtain⟨rfl,rfl⟩:=B;rw[<-R d]at s;simp only[bH,O,Y,s,U]
def QW{x:Ro}{g:Option (Nat×Bool)}{tm:Tr}{hp:HS}{K:V->HS->Bool}(hx:bL P o=some x)(S:jd n o.dst=true)
 (c:kS ops o g) (hg:g=none\/ ∃d e b,g=some (d,e)/\tm.get (key d)=some (bV b)/\(b==e)=true)
 (hE: ∃L,ir tm L) (h:ER false x (gT tm) hp ctr K=true): ∃v hp',ym P n ops o tm hp ctr v hp'/\K v hp'=true:=by
 obtain⟨s,U⟩:=hE;rw[qp U]at h;obtain⟨O,v,hp',Y,B⟩:=yh (st:=⟨n,s,hp⟩) hx (aEJ h);refine⟨v,hp',λL R=>⟨S,?_⟩,B⟩;rw[guard_true R c hg]
 have a:∀y,St.get ⟨n,L,hp⟩ y=St.get ⟨n,s,hp⟩ y:=by
  intro y
  cases y with
  |tmp t=>simp only[St.get];rw[R t,U t]
  |_=>rfl
 have D:cK (St.get ⟨n,L,hp⟩) o=none:=by rw[xV (get':=St.get ⟨n,s,hp⟩) (λy _=>a y)];exact O
 simp only[D];rw[xL (get':=St.get ⟨n,s,hp⟩) (λy _=>a y)];exact Y
def Tr.toL:Tr->(Pn->Pn)->List (Nat×V)
 | .nil,_=>[]
 | .node v l r,f=>(match v with|some x=>[((f .e).dec,x)]|none=>[])++l.toL (λp=>f (.o p))++r.toL (λp=>f (.i p))
def xR:∀ {p q:Pn},p.dec=q.dec->p=q
 | .e,.e,_=>rfl
 | .e,.o _,h=>af8
 | .e,.i _,h=>af8
 | .o _,.e,h=>af8
 | .i _,.e,h=>af8
 | .o p,.o q,h=>by simp only[Pn.dec]at h;rw[xR (p:=p) (q:=q) aa]
 | .i p,.i q,h=>by simp only[Pn.dec]at h;rw[xR (p:=p) (q:=q) aa]
 | .o p,.i q,h=>by simp only[Pn.dec]at h;omega
 | .i p,.o q,h=>by simp only[Pn.dec]at h;omega
def mX{β:Type}:∀ {l:List (Nat×β)} {t:Nat},(∀p,p∈l->p.1≠t)->find l t=none
 | [],t,_=>rfl
 |(k,v)::r,t,h=>by
  rw[aF,if_neg (h (k,v) ak)];exact mX λp F=>h p (by simp[F])
def toL_keys:∀ (tr:Tr) (f:Pn->Pn) (p:Nat×V),p∈tr.toL f-> ∃q,p.1=(f q).dec
 | .nil,f,p,h=>by simp[Tr.toL]at h
 | .node v l r,f,p,h=>by
   simp only[Tr.toL,yl]at h;rcases h with(h|h)|h
   . cases v with
     |none=>simp at h
     |some x=>simp only[vv]at h;subst h;exact⟨.e,rfl⟩
   . obtain⟨q,d⟩:=toL_keys l _ p h;exact⟨.o q,d⟩
   . obtain⟨q,d⟩:=toL_keys r _ p h;exact⟨.i q,d⟩
def De:∀ (tr:Tr) (f:Pn->Pn) (R:∀p q,f p=f q->p=q) (q:Pn),find (tr.toL f) (f q).dec=tr.get q
 | .nil,f,R,q=>by rw[Tr.BL];rfl
 | .node v l r,f,R,q=>by
   have U:=De l (λp=>f (.o p)) (λp q h=>by have:=R _ _ h;simpa using this);have J:=De r (λp=>f (.i p)) (λp q h=>by have:=R _ _ h;simpa using this)
   have nl:∀q,(∀Z,Pn.o Z≠q)->find (l.toL λp=>f (.o p)) (f q).dec=none:=by
    intro q d;refine mX λp F H=>?_;obtain⟨Z,a⟩:=toL_keys l _ p F;rw[a]at H;exact d Z (R _ _ (xR H))
   have b:∀q,(∀Z,Pn.i Z≠q)->find (r.toL λp=>f (.i p)) (f q).dec=none:=by
    intro q d;refine mX λp F H=>?_;obtain⟨Z,a⟩:=toL_keys r _ p F;rw[a]at H;exact d Z (R _ _ (xR H))
   have nv:∀q,q≠ .e->find (match v with|some x=>[((f .e).dec,x)]|none=>[]) (f q).dec=none:=by
    intro q d;refine mX λp F H=>?_
    cases v with
    |none=>simp at F
    |some x=>
     simp only[vv]at F;subst F;exact d (R _ _ (xR H)).symm
   simp only[Tr.toL,dO]
   cases q with
   |e=>
    rw[nl .e ak,b .e ak]
    cases v with
    |none=>simp[find,Tr.get]
    |some x=>simp[find,Tr.get]
   |o q=>
    rw[nv (.o q) ak,b (.o q) ak,U q];simp[Tr.get]
   |i q=>
    rw[nv (.i q) ak,nl (.i q) ak,J q];simp[Tr.get]
def Oj(tr:Tr): ∃L,ir tr L:=by
 refine⟨tr.toL id,λt=>?_⟩
 have O:t=(id (key t)).dec:=by
  simp only[id];unfold key;exact(xp t t (ww _)).symm
 have Y:=De tr id (λ_ _ h=>h) (key t);rw[<-O]at Y;exact Y
variable{call:AH Bool}{fe:AI Bool}
variable{o:Oper}{size n ctr:Nat}{x:Ro}{L s:TS}{ops:Array Oper}{g:Option (Nat×Bool)}{hp':HS}{us:Lw}{v:V}
def Cp{x:eI}{lo I:Option eI}(h:aZ P o=some (.slice size x lo I)):
 ∃t b lo' hi' e,o.op= .slice t b lo' hi' none/\P.underlying t=some (.slice e)/\dc P e=some size/\x=eR b/\lo=lo'.map eR/\I=hi'.map eR:=by
 obtain⟨J,Z,w,d,A,K⟩:=o;cases Z
 case slice t b lo' hi' v=>
  cases v with
  |some m=>simp[aZ]at h
  |none=>
   simp only[aZ]at h;split at h
   . rename_i e L;simp only[jU,Ro.slice.injEq]at h;obtain⟨s,S,rfl,rfl,rfl,rfl⟩:=h;exact⟨t,b,lo',hi',e,rfl,L,S,rfl,rfl,rfl⟩
   . simp at h
 all_goals
  exfalso;simp only[aZ]at h
  repeat' split at h
  all_goals first|(simp at h;done)|simp_all
def D8{x:eI}{lo I:Option eI}(h:bL P o=some (.slice size x lo I)):
 ∃t b lo' hi' e,o.op= .slice t b lo' hi' none/\P.underlying t=some (.slice e)/\dc P e=some size/\x=eR b/\lo=lo'.map eR/\I=hi'.map eR:=by
 unfold bL at h;split at h
 . rename_i r J;replace J:=fC J;simp only[ii]at h;subst h;exact Cp J
 . simp only[ii]at h;rcases pW o with⟨t,N,l,d,e⟩|e
   . rw[e]at h;simp at h
   . rw[e]at h;simp at h
def KZ{get:Operand->V}{p:FuncId×Lw}{hp:HS}{nid:Nat}{r:V×HS}(D:cK get o=some p)(H:aK P get hp nid o=some r):False:=by
 obtain⟨J,Z,w,d,A,K⟩:=o;unfold cK at D;simp only at D;split at D
 . simp[aK]at H
 . simp at D
def XE{tm:Tr}{hp:HS}(R:ir tm L)(J:Rel M A ρ F ⟨n,L,hp⟩ a w){lo:Option Operand}(h:jI ((lo.map eR).map (gT tm)) 0=some 0):lo.map a.eval=none\/ ∃k,lo.map a.eval=some (.int k 0):=by
 cases lo with
 |none=>exact .inl rfl
 |some x=>
  right;simp only[wv,jI]at h;split at h
  . rename_i k m r;split at h
    . rename_i z;simp only[ii]at h;have:m=0:=aa
      subst this;exact⟨k,by rw[wv,V.lK r (RV.at R J x)]⟩
    . simp at h
  . simp at h
def Hv{x:eI}{lo I:Option eI}{tm:Tr}{hp:HS}(hx:bL P o=some (.slice size x lo I))(hy:gT tm x= .w (.one (.t (.val (.slice none 0 0)))))
 (Z:jI (lo.map (gT tm)) 0=some 0) (l:jI (I.map (gT tm)) 0=some 0):NQ P n o tm hp ctr (.w (.one (.t (.val (.slice none 0 0))))) hp:=by
 obtain⟨t,b,j,Q,e,d,g,S,rfl,rfl,rfl⟩:=D8 hx;intro M A ρ a w L R J;have h:=RV.at R J b;rw[hy]at h;have z:a.eval b= .slice none 0 0:=V.bR (v:= .slice none 0 0) rfl h
 have c:(execOp a.eval o).run P w= .ok (.value (.slice none 0 0)) w:=by
  rw[<-Aq,d]
  rcases XE R J Z with O|⟨s,O⟩<;>rcases XE R J l with Y|⟨K,Y⟩<;>
   simp[execOp,Instr.sliceAt,Instr.slice,z,O,Y,run_underlying g,Instr.sliceBounds,Instr.sliceBound,asIntOf,run_sizeOf S]
 exact⟨_,w,A,ρ,.inl c,J.sub cW,RV.ofValue w A ρ (.slice none 0 0),dA.refl _ _,dD.refl _,bY.refl _ _⟩
def Dy{i:Nat}{f:FuncId}{tm:Tr}{hp:HS}{U:Nat}
 (I:ops[i]? =some o) (G:enters P f=true) (S:jd n o.dst=true) (Y:kS ops o g) (hg:g=none\/ ∃d r b,g=some (d,r)/\tm.get (key d)=some (bV b)/\(b==r)=true)
 (c:∀L,ir tm L->cK (St.get ⟨n,L,hp⟩) o=some (f,us)) (D:kU P f us hp ctr v hp' U):DI P n ops i tm hp ctr (Cl tm o.dst v) hp' U:=by
 intro M A ρ a w L Q h R J Z;have N:=guard_true R Y hg;have VL:=eD J N;obtain⟨F,H,hxr⟩:=rj (P:=P) J (c L R) G;unfold wpOp;simp only[I,VL,if_true];refine .inl ?_;simp only[Oper.wp,H,Oper.upon];refine(D M A ρ a w n L F J hxr).mono ?_;rintro e j ⟨x,l,s,rfl,y,B,K,O,z⟩;refine Z _ _ ⟨_,l,s,R.put o.dst v,?_,K,O,z⟩;have:=y.put (dst:=o.dst) B (nZ S);rw[iP]at this;exact this
def OL{i:Nat}{tm:Tr}{hp:HS}
 (I:ops[i]? =some o) (S:jd n o.dst=true) (Y:kS ops o g) (hg:g=none\/ ∃d e b,g=some (d,e)/\tm.get (key d)=some (bV b)/\(b==e)=true)
 (h:NQ P n o tm hp ctr v hp'):DI P n ops i tm hp ctr (Cl tm o.dst v) hp' (ctr+4):=by
 intro M A ρ a w L Q H R J Z;have N:=guard_true R Y hg;have F:=eD J N;obtain⟨x,j,l,s,c,r,B,K,O,z⟩:=h M A ρ a w L R J;unfold wpOp;simp only[I,F,if_true];refine .inl ?_
 have D:∀ {y:Value},RV j l s v y->Rel M l s (bJ (ctr+4)) ⟨n,eJ L o.dst v,hp'⟩ (a.put o.dst y) j:=by
  intro y G;have:=r.put (dst:=o.dst) G (nZ S);rw[iP]at this;exact this
 rcases c with c|⟨c,rfl⟩
 . simp only[Oper.wp,c,Oper.upon];exact Z _ _ ⟨_,l,s,R.put o.dst v,D B,K,O,z⟩
 . simp only[Oper.wp,c,Oper.upon];exact Z _ _ ⟨_,l,s,R.put o.dst v,D B,K,O,z⟩
def Jh{tm:Tr}(R:ir tm L)(U:ir tm s)(l:List eI):Oc L l=Oc s l:=by
 have:(λx=>eI.get L x)=λx=>eI.get s x:=by rw[<-qp R, <-qp U]
 induction l with
 |nil=>rfl
 |cons y r c=>simp only[Oc,c,congrFun this y]
def Az{f:FuncId}{args:List eI}{tm:Tr}{hp:HS}(hx:bL P o=some (.call f args))(U:ir tm s)(M:Oc s args=some us):
 enters P f=true/\ ∀L,ir tm L->cK (St.get ⟨n,L,hp⟩) o=some (f,us):=by
 obtain⟨N,l,d,rfl,G⟩:=qN hx;refine⟨G,λL R=>?_⟩;have c:vq (St.get ⟨n,L,hp⟩) N.toList=some us:=by rw[<-vp, <-M];exact Jh R U _
 unfold cK;rw[d];simp only[St.get,V.ofValue,c];rfl
def Nh{k:FuncId->Lw->Bool}(h:WA false v us k=true): ∃f a,k f a=true/\
 ∀ {get:Operand->V} {o:Oper} {t:Nat} {args:Array Operand} {l:Array TypeId},o.op= .call ⟨.value (.tmp t),args,l⟩->get (.tmp t)=v->vq get args.toList=some us->cK get o=some (f,a):=by
 unfold WA at h;split at h
 . exact⟨_,_,h,λd z M=>by unfold cK;rw[d];simp only[z,M]⟩
 . exact⟨_,_,h,λd z M=>by unfold cK;rw[d];simp only[z,M,sF,wv]⟩
 . exact⟨_,_,h,λd z M=>by unfold cK;rw[d];simp only[z,M,sF,wv]⟩
 . obtain⟨D,h⟩:=cj h;exact⟨_,_,h,λd z M=>by unfold cK;rw[d];simp only[z,M,D,if_true]⟩
 . simp at h
def xW{x:eI}{args:List eI}{tm:Tr}{hp:HS}{k:FuncId->Lw->Bool}(hx:bL P o=some (.oP x args))(U:ir tm s)(M:Oc s args=some us)
 (h:WA false (gT tm x) us k=true): ∃f a,k f a=true/\ ∀L,ir tm L->cK (St.get ⟨n,L,hp⟩) o=some (f,a):=by
 obtain⟨t,N,l,d,rfl,rfl⟩:=o7 hx;obtain⟨f,a,O,Y⟩:=Nh h;refine⟨f,a,O,λL R=>Y d ?_ ?_⟩
 . rw[qp R];exact(bW ⟨n,L,hp⟩ (.tmp t)).symm
 . rw[<-vp, <-M];exact Jh R U _
def Gm(lq:tG P call){i:Nat}{tm:Tr}{hp:HS}{K:Tr->HS->Nat->Bool}
 (I:ops[i]? =some o) (hx:bL P o=some x) (r:jd n o.dst=true) (U:kS ops o g) (hg:g=none\/ ∃d want b,g=some (d,want)/\tm.get (key d)=some (bV b)/\(b==want)=true)
 (h:EGo false call P ⟨o.dst,g,x⟩ tm hp ctr K=true): ∃tm' hp' ct,DI P n ops i tm hp ctr tm' hp' ct/\K tm' hp' ct=true:=by
 obtain⟨L0,C6⟩:=Oj tm
 have plain:∀ {hp:HS},ER false x (gT tm) hp ctr (λv hp'=>o8 tm o.dst v λtm=>tR (ctr+4) λc=>K tm hp' c)=true-> ∃tm' hp' ct,DI P n ops i tm hp ctr tm' hp' ct/\K tm' hp' ct=true:=by
  intro hp h;obtain⟨v,hp',S,j⟩:=QW hx r U hg ⟨L0,C6⟩ h;rw[kK,fu]at j;exact⟨_,_,_,S.run I,j⟩
 unfold EGo at h;split at h
 . rename_i f e qh;simp only at qh;subst qh;rw[qp C6]at h;obtain⟨l,iG,h⟩:=BV h;obtain⟨v,hp',ct,D,h⟩:=lq _ _ _ _ _ h;rw[dj,kK]at h;obtain⟨ou,Ex⟩:=Az (n:=n) (hp:=hp) hx C6 iG;exact⟨_,_,_,Dy I ou r U hg Ex D,h⟩
 . rename_i y e qh;simp only at qh;subst qh;have N:=h;rw[qp C6]at N;obtain⟨l,iG,N⟩:=BV N;rw[<-qp C6]at N;obtain⟨f,jn,O,Ex⟩:=xW (n:=n) (hp:=hp) hx C6 iG N;obtain⟨ou,O⟩:=cj O;obtain⟨v,hp',ct,D,O⟩:=lq _ _ _ _ _ O;rw[dj,kK]at O;exact⟨_,_,_,Dy I ou r U hg Ex D,O⟩
 . rename_i H ty qh;simp only at qh;subst qh;obtain⟨rfl,rfl⟩:=gG hx;obtain⟨v,hp',O,Y⟩:=YC (n:=n) h;rw[kK,fu]at Y;exact⟨_,_,_,OL I r U hg O,Y⟩
 . rename_i B bytes s y qh;simp only at qh;subst qh;split at h
   . rename_i id sz len S;split at h
     . rename_i eV F R;rw[cM]at h;obtain⟨tm',hp',ct,O,Y⟩:=plain h;refine⟨tm',hp',ct,?_,Y⟩;intro M A ρ a w L Q K' z J Z;exact O M A ρ a w L Q K' z (Rel.aA9 (st:=⟨n,L,hp⟩) J R len) Z
     . simp at h
   . exact plain h
 . rename_i B y lo hi' qh;simp only at qh;subst qh;split at h
   . rename_i G;split at h
     . rename_i hlo hhi;rw[kK,fu]at h;refine⟨_,_,_,OL I r U hg ?_,h⟩;exact Hv hx G hlo hhi
     . simp at h
   . exact plain h
 . exact plain h
def Gl(l:tG P call){i:Nat}{tm:Tr}{hp:HS}{K:Tr->HS->Nat->Bool}
 (I:ops[i]? =some o) (hx:bL P o=some x) (F:jd n o.dst=true) (c:kS ops o g)
 (h:EOp false call P ⟨o.dst,g,x⟩ tm hp ctr K=true): ∃tm' hp' U,DI P n ops i tm hp ctr tm' hp' U/\K tm' hp' U=true:=by
 unfold EOp at h
 have skip:(∃d e,g=some (d,e)/\((∃b,tm.get (key d)=some (bV b)/\(b==e)=false)\/tm.get (key d)=some (.fB [])))->(o8 tm o.dst (.fB []) λtm=>K tm hp ctr)=true->
  ∃tm' hp' U,DI P n ops i tm hp ctr tm' hp' U/\K tm' hp' U=true:=by
  intro D h;rw[kK]at h;have S:ym P n ops o tm hp ctr (.fB []) hp:=Cb F c D;refine⟨_,_,_,?_,h⟩;intro M A ρ a w L Q H R J Z;have y:=S L R;unfold wpOp;simp only[I];obtain⟨d,e,rfl,hgg⟩:=D
  have hgf:bH ops o L=some false:=by
   rcases c with⟨_,z⟩|⟨j,want',v,O,Y,B⟩
   . simp at z
   . simp only[ii,uu]at B;obtain⟨rfl,rfl⟩:=B;rcases hgg with⟨b,G,s⟩|G
     . rw[<-R d]at G;simp only[bH,O,Y,G,s]
     . rw[<-R d]at G;simp only[bH,O,Y,G]
  have:=eD J hgf;simp only[this,aag,if_false];refine Z _ _ ⟨_,A,ρ,R.put o.dst (.fB []),?_,dA.refl _ _,dD.refl _,bY.refl _ _⟩;have:=J.put (dst:=o.dst) yI (nZ F);rw[iP]at this;exact this
 split at h
 . rename_i N;simp only at N;exact Gm l I hx F c (.inl N) h
 . rename_i d e r;simp only at r;split at h
   . rename_i b G
     cases hbw:(b==e)with
     |true=>
      rw[hbw]at h;exact Gm l I hx F c (.inr ⟨d,e,b,r,G,hbw⟩) h
     |false=>
      rw[hbw]at h;exact skip ⟨d,e,r,.inl ⟨b,G,hbw⟩⟩ h
   . rename_i G;exact skip ⟨d,e,r,.inr G⟩ h
   . simp at h
def nU{A rs:List oc}
 (r:(match o.guard with
   |none=>some (⟨o.dst,none,x⟩::A)
   |some (j,e)=>
    match(ops[j]?).bind (·.dst)with
    |some d=>some (⟨o.dst,some (d,e),x⟩::A)
    |none=>none)=some rs): ∃g,rs=⟨o.dst,g,x⟩::A/\kS ops o g:=by
 split at r
 . rename_i D;simp only[ii]at r;exact⟨_,r.symm,.inl ⟨D,rfl⟩⟩
 . rename_i j e D;split at r
   . rename_i d S;simp only[ii]at r;exact⟨_,r.symm,.inr ⟨j,e,d,D,S,rfl⟩⟩
   . simp at r
def DR(lq:tG P call){n:Nat}{ops:Array Oper}:∀ {l:List Oper} {rs:List oc} {k:Nat} {tm:Tr} {hp:HS} {ctr:Nat} {K:Tr->HS->Nat->Bool},
 (∀j,ops[k+j]? =l[j]?)->bj P ops l=some rs->(rs.all λo=>jd n o.dst)=true->aiS false call P rs tm hp ctr K=true->
 ∃tm' hp' y,K tm' hp' y=true/\ ∀ (M A:agt) (ρ:Env) (a:Act) (w:World) (L:TS) (Q:Exit->Act->World->Prop),ir tm L->Rel M A ρ (bJ ctr) ⟨n,L,hp⟩ a w->
  (∀G w',At M A ρ w n tm' hp' y G w'->Q .normal G w')->wpOps P ops Q (List.range' k l.length) a w
 | [],rs,k,tm,hp,ctr,K,U,r,S,h=>by
   simp only[bj,ii]at r;subst r;refine⟨tm,hp,ctr,h,λM A ρ a w L Q R J d=>?_⟩;exact d _ _ (At.here R J)
 |o::l,rs,k,tm,hp,ctr,K,U,r,S,h=>by
  simp only[bj]at r;split at r
  . rename_i x z N b;have I:ops[k]? =some o:=age
    obtain⟨g,rfl,c⟩:=nU r;simp only[adw,LD]at S;simp only[aiS]at h;obtain⟨e,F,D,O,Y⟩:=Gl (n:=n) lq I N S.1 c h;obtain⟨tm2,H,v,B,s⟩:=DR lq (k:=k+1) (λj=>by have:=U (j+1);rw[show k+1+j=k+(j+1) by omega,this];simp) b S.2 Y;refine⟨tm2,H,v,B,λM A ρ a w L Q R J d=>?_⟩;rw[aaa,ae5,wpOps_cons];refine O M A ρ a w L Q _ R J λG w' Bc=>?_;obtain⟨L1,A1,ρ1,q1,q2,q3,q4,q5⟩:=Bc;exact s M A1 ρ1 G w' L1 Q q1 q2 λZ w2 arE=>d _ _ (arE.trans q3 q4 q5)
  . simp at r
def Ws{tm:Tr}(R:ir tm L)(o:oc)(ctr:Nat):PV o tm ctr=fz o L ctr:=by
 unfold PV fz;rw[qp R]
def DS(l:oV P fe){tm:Tr}{hp:HS}{K:Tr->HS->Nat->Bool}
 (hx:bL P o=some x) (F:jd n o.dst=true) (Y:kS ops o g) (hg:g=none\/ ∃d e b,g=some (d,e)/\tm.get (key d)=some (bV b)/\(b==e)=true)
 (h:aiT false fe P ⟨o.dst,g,x⟩ tm hp ctr K=true): ∃v hp',ym P n ops o tm hp ctr v hp'/\K (Cl tm o.dst v) hp' (ctr+4)=true:=by
 obtain⟨s,U⟩:=Oj tm;unfold aiT at h;split at h
 . rename_i f j Q;simp only at Q;subst Q;rw[qp U]at h;obtain⟨A,M,h⟩:=BV h;obtain⟨v,hp',D,h⟩:=l _ _ _ _ _ h;rw[dj,kK,fu]at h;obtain⟨G,I⟩:=Az (n:=n) (hp:=hp) hx U M;refine⟨v,hp',λL R=>⟨F,?_⟩,h⟩;rw[guard_true R Y hg];simp only[I L R];exact⟨G,D⟩
 . rename_i y j Q;simp only at Q;subst Q;have N:=h;rw[qp U]at N;obtain⟨A,M,N⟩:=BV N;rw[<-qp U]at N;obtain⟨f,a,O,I⟩:=xW (n:=n) (hp:=hp) hx U M N;obtain⟨G,O⟩:=cj O;obtain⟨v,hp',D,O⟩:=l _ _ _ _ _ O;rw[dj,kK,fu]at O;refine⟨v,hp',λL R=>⟨F,?_⟩,O⟩;rw[guard_true R Y hg];simp only[I L R];exact⟨G,D⟩
 . rename_i Z w Q;simp only at Q;subst Q;obtain⟨rfl,rfl⟩:=gG hx;split at h
   . rename_i v hp' H;rw[dj,kK,fu]at h;refine⟨v,hp',λL R=>⟨F,?_⟩,h⟩;rw[guard_true R Y hg];rw[Ar,get_eq R n hp]at H
     have c:cK (St.get ⟨n,L,hp⟩) o=none:=by
      cases D:cK (St.get ⟨n,L,hp⟩) o with
      |none=>rfl
      |some p=>
       exfalso;exact KZ D H
     simp only[c];exact H
   . simp at h
 . obtain⟨v,hp',S,J⟩:=QW (n:=n) hx F Y hg ⟨s,U⟩ h;rw[kK,fu]at J;exact⟨_,_,S,J⟩
def NZ(a:oV P fe){tm:Tr}{hp:HS}{K:Tr->HS->Nat->Bool}
 (hx:bL P o=some x) (S:jd n o.dst=true) (Y:kS ops o g)
 (h:auS false fe P ⟨o.dst,g,x⟩ tm hp ctr K=true): ∃v hp',ym P n ops o tm hp ctr v hp'/\K (Cl tm o.dst v) hp' (ctr+4)=true:=by
 unfold auS at h
 have skip:(∃d e,g=some (d,e)/\((∃b,tm.get (key d)=some (bV b)/\(b==e)=false)\/tm.get (key d)=some (.fB [])))->(o8 tm o.dst (.fB []) λtm=>tR (ctr+4) λc=>K tm hp c)=true->
  ∃v hp',ym P n ops o tm hp ctr v hp'/\K (Cl tm o.dst v) hp' (ctr+4)=true:=by
  intro D h;rw[kK,fu]at h;exact⟨_,_,Cb S Y D,h⟩
 split at h
 . rename_i N;simp only at N;exact DS a hx S Y (.inl N) h
 . rename_i d e r;simp only at r;split at h
   . rename_i b G
     cases hbw:(b==e)with
     |true=>
      rw[hbw]at h;exact DS a hx S Y (.inr ⟨d,e,b,r,G,hbw⟩) h
     |false=>
      rw[hbw]at h;exact skip ⟨d,e,r,.inl ⟨b,G,hbw⟩⟩ h
   . rename_i G;exact skip ⟨d,e,r,.inr G⟩ h
   . simp at h
def AG(a:oV P fe){ops:Array Oper}{n base:Nat}{K:List kT->Tr->HS->Nat->Bool}:∀ {l:List Oper} {rs:List oc} {k:Nat} {B:List kT} {tm:Tr} {hp:HS},bj P ops l=some rs->
 (rs.all λo=>jd n o.dst)=true->B.length=k->LC false fe P rs B tm hp (base+4 * k) K=true->
 ∃ (d:Nat->Tr) (hpT:Nat->HS) (v:Nat->V) (fs:List kT),K fs (d (k+l.length)) (hpT (k+l.length)) (base+4 * (k+l.length))=true/\(∀i,i < k->fs[i]? =B[i]?)/\d k=tm/\hpT k=hp/\
  ∀j o,l[j]? =some o->ym P n ops o (d (k+j)) (hpT (k+j)) (base+4 * (k+j)) (v (k+j)) (hpT (k+j+1))/\d (k+j+1)=Cl (d (k+j)) o.dst (v (k+j))/\
   ∃f,fs[k+j]? =some f/\f.dst=o.dst/\ ∀L,ir (d (k+j)) L->(∀t,t∈names ops o->t∈f.nm)/\(∀q,q∈lZ (St.get ⟨n,L,hpT (k+j)⟩) o->q∈f.rd)/\(∀q,q∈zQ (St.get ⟨n,L,hpT (k+j)⟩) (base+4 * (k+j)) o->q∈f.wr)
 | [],rs,k,B,tm,hp,r,S,Z,h=>by
   simp only[bj,ii]at r;subst r;exact⟨λ_=>tm,λ_=>hp,λ_=> .undef,B,by simpa[LC]using h,λ_ _=>rfl,rfl,rfl,λj o Q=>by simp at Q⟩
 |o::l,rs,k,B,tm,hp,r,S,Z,h=>by
  simp only[bj]at r;split at r
  . rename_i x A N I;obtain⟨g,rfl,Y⟩:=nU r;simp only[adw,LD]at S;simp only[LC]at h;obtain⟨M,b,z,J⟩:=NZ (n:=n) (ops:=ops) a N S.1 Y h;rw[show base+4 * k+4=base+4 * (k+1) by omega]at J;obtain⟨d,hpT,v,fs,q1,q2,q3,q4,q5⟩:=AG a (k:=k+1) I S.2 ago J
    have w:fs[k]? =some (PV ⟨o.dst,g,x⟩ tm (base+4 * k)):=by
     rw[q2 k aa,aai aa,Z];simp
    refine⟨λi=>if i=k then tm else d i,λi=>if i=k then hp else hpT i,λi=>if i=k then M else v i,fs,?_,?_,?_,?_,?_⟩
    . have H:k+(o::l).length=k+1+l.length:=by simp;omega
      have U:¬k+1+l.length=k:=aa
      simp only[H,U,if_false];exact q1
    . intro i O;rw[q2 i aa,aaf aa]
    . simp
    . simp
    . intro j c Q
      cases j with
      |zero=>
       simp only[yq,ii]at Q;subst Q;have U:¬k+1=k:=aa
       simp only[ace,if_true,U,if_false,q4,q3];refine⟨z,trivial,_,w,rfl,λL R=>?_⟩;have e:=FL (ops:=ops) (n:=n) (ctr:=base+4 * k) (tm:=L) (hp:=hp) N Y;rw[Ws R];exact e.2
      |succ j=>
       have:=q5 j c af5;have H:¬k+(j+1)=k:=aa
       have U:¬k+(j+1)+1=k:=aa
       simp only[H,U,if_false];rw[show k+(j+1)=k+1+j by omega];exact this
  . simp at r
def nM{c:Array Oper}:∀ {l:List Oper} {rs:List oc},bj P c l=some rs->rs.length=l.length
 | [],rs,h=>by simp only[bj,ii]at h;subst h;rfl
 |o::l,rs,h=>by
  simp only[bj]at h;split at h
  . rename_i x A N I;obtain⟨g,rfl,_⟩:=nU h;simp[nM I]
  . simp at h
def uH(a:List Nat)(N:Nat):∀ (j:Nat) (rs:List oc),rs=(da a N j rs).1++(da a N j rs).2/\
 (∀o r,(da a N j rs).2=o::r->Ka a N (j+(da a N j rs).1.length)=true)
 |j,[]=>⟨rfl,λo r h=>by simp[da]at h⟩
 |j,x::q=>by
  obtain⟨O,Y⟩:=uH a N (j+1) q
  cases hp:Ka a N j with
  |true=>
   have e:da a N j (x::q)=([],x::q):=by simp only[da,hp,ki]
   rw[e];exact⟨rfl,λo r _=>by simpa using hp⟩
  |false=>
   have e:da a N j (x::q)=(x::(da a N (j+1) q).1,(da a N (j+1) q).2):=by simp only[da,hp,ki]
   rw[e];refine⟨by simp only[ab8, <-O],λo r h=>?_⟩;have:=Y o r h;rw[show j+(x::(da a N (j+1) q).1).length=j+1+(da a N (j+1) q).1.length by simp;omega];exact this
def ox{c:Array Oper}:∀ {a b:List oc} {l:List Oper},bj P c l=some (a++b)-> ∃z K,l=z++K/\bj P c z=some a/\bj P c K=some b/\z.length=a.length
 | [],b,l,h=>⟨[],l,rfl,rfl,h,rfl⟩
 |x::a,b,[],h=>by simp[bj]at h
 |x::a,b,o::l,h=>by
  simp only[bj]at h;split at h
  . rename_i y A G I
    have r: ∃g,(⟨o.dst,g,y⟩:oc)=x/\A=a++b/\ ∀n,(match o.guard with
     |none=>some ((⟨o.dst,none,y⟩:oc)::n)
     |some (j,e)=>match(c[j]?).bind (·.dst)with
      |some d=>some ((⟨o.dst,some (d,e),y⟩:oc)::n)
      |none=>none)=some ((⟨o.dst,g,y⟩:oc)::n):=by
     split at h
     . rename_i D;simp only[ab8,ii,aaz]at h;exact⟨none,h.1,h.2,λn=>by simp only[D]⟩
     . rename_i j e D;split at h
       . rename_i d S;simp only[ab8,ii,aaz]at h;exact⟨some (d,e),h.1,h.2,λn=>by simp only[D,S]⟩
       . simp at h
    obtain⟨g,rfl,rfl,D⟩:=r;obtain⟨z,K,rfl,O,Y,B⟩:=ox I;exact⟨o::z,K,rfl,by simp only[bj,G,O];exact D a,Y,by simp[B]⟩
  . simp at h
def yd{p:Nat->Bool}(h:(List.range n).all p=true){i:Nat}(I:i < n):p i=true:=yt.1 h i (aap.2 I)
def ML{a:List Nat}{N j:Nat}(h:Ka a N j=true):(∀i,i < j->(a.getD j 0).testBit i=true)/\ ∀k,j < k->k < N->(a.getD k 0).testBit j=true:=by
 simp only[Ka,LD]at h;refine⟨λi I=>yd h.1 I,λk O Y=>?_⟩;have:=yd h.2 (i:=k - (j+1)) aa;rw[show j+1+(k - (j+1))=k by omega]at this;exact this
def I2(lq:tG P call)(mE:oV P fe)(hE:∀i o,ops[i]? =some o-> ∀e,e∈bP o->e < i):∀ {f lo:Nat} {l:List Oper} {rs:List oc} {tm:Tr} {hp:HS} {ctr:Nat} {K:Tr->HS->Nat->Bool},
 (∀j,ops[lo+j]? =l[j]?)->lo+l.length=ops.size->bj P ops l=some rs->(rs.all λo=>jd n o.dst)=true->DT false call fe P (pF (ops.toList.map bP) []) ops.size f lo rs tm hp ctr K=true->
 ∃tm' hp' ct,K tm' hp' ct=true/\ ∀ (M A:agt) (ρ:Env) (a:Act) (w:World) (L:TS) (Q:Exit->Act->World->Prop),ir tm L->Rel M A ρ (bJ ctr) ⟨n,L,hp⟩ a w->
  (∀a' w',At M A ρ w n tm' hp' ct a' w'->Q .normal a' w')-> ∀ (fuel:Nat) (listed:Array Bool),listed.size=ops.size->(∀i,i < ops.size->listed.getD i false=decide (i < lo))->ops.size - lo<=fuel->wpAny P .any ops Q fuel listed a w:=by
 intro f
 induction f with
 |zero=>intro lo l rs tm hp ctr K _ _ _ _ h;simp[DT]at h
 |succ f ih=>
  intro lo l rs tm hp ctr K U hlen gy S h;simp only[DT]at h;obtain⟨hsp,VT⟩:=uH (pF (ops.toList.map bP) []) ops.size lo rs;revert h;generalize (da (pF (ops.toList.map bP) []) ops.size lo rs).1=fo at hsp VT;generalize (da (pF (ops.toList.map bP) []) ops.size lo rs).2=rest at hsp VT;intro h;subst hsp;obtain⟨l1,l2,rfl,zi,AX,Bb⟩:=ox gy;simp only[List.all_append,LD]at S;obtain⟨T7,hpT,v,fs,q1,_,q3,q4,q5⟩:=AG (P:=P) mE (ops:=ops) (n:=n) (base:=ctr) (k:=0) (l:=l1) zi S.1 rfl bc;obtain⟨qc,q1⟩:=cj q1;simp only[LD]at qc;obtain⟨qs,ql⟩:=qc;simp only[aas]at q1 q5;have hlm:lo+l1.length<=ops.size:=by rw[<-hlen];simp
  have hop:∀i,i < l1.length->ops[lo+i]? =l1[i]? :=λi I=>by rw[U i,aaf I]
  have MU:∀k,lo+l1.length<=k->k < ops.size-> ∀i,i < l1.length->((pF (ops.toList.map bP) []).getD k 0).testBit (lo+i)=true:=by
   intro k Z hk' i I;unfold O2 at ql;rw[<-Bb]at ql;have:=yd (yd ql (i:=k - (lo+l1.length)) aa) I;rw[show lo+l1.length+(k - (lo+l1.length))=k by omega]at this;exact this
  have Oq:∀ (M A:agt) (ρ:Env) (a:Act) (w:World) (L:TS) (Q:Exit->Act->World->Prop),ir tm L->Rel M A ρ (bJ ctr) ⟨n,L,hp⟩ a w->
   (∀ (fuel:Nat) (listed:Array Bool) (a':Act) (w':World),listed.size=ops.size->(∀i,i < ops.size->listed.getD i false=decide (i < lo+l1.length))->ops.size - (lo+l1.length)<=fuel->
     At M A ρ w n (T7 l1.length) (hpT l1.length) (ctr+4 * l1.length) a' w'->wpAny P .any ops Q fuel listed a' w')->
   ∀ (fuel:Nat) (listed:Array Bool),listed.size=ops.size->(∀i,i < ops.size->listed.getD i false=decide (i < lo))->ops.size - lo<=fuel->wpAny P .any ops Q fuel listed a w:=by
   intro M A ρ a w L Q R cP VV;rw[<-q3]at R
   let Ls:Nat->TS:=λi=>Nat.rec L (λi l=>eJ l ((l1[i]?).bind (·.dst)) (v i)) i
   have hLs:∀i,i<=l1.length->ir (T7 i) (Ls i):=by
    intro i
    induction i with
    |zero=>intro _;exact R
    |succ i ihi=>
     intro I;have J:l1[i]? =some l1[i]:=by simp[show i < l1.length by omega]
     have:=(q5 i l1[i] J).2.1;rw[this];have Y:=(ihi aa).put (l1[i].dst) (v i)
     have e:Ls (i+1)=eJ (Ls i) l1[i].dst (v i):=by
      show eJ (Ls i) ((l1[i]?).bind (·.dst)) (v i)=_;rw[J];rfl
     rw[e];exact Y
   have Kp:Rel M A ρ (bJ ctr) ⟨n,Ls 0,hpT 0⟩ a w:=by rw[q4];exact cP
   refine Ri (v:=v) (tmT:=Ls) (hpT:=hpT) (base:=ctr) (fs:=fs) hlm (λi o I J=>?_) hE qs MU Kp ?_
   . rw[hop i I]at J;obtain⟨s1,s2,f,f1,f2,f3⟩:=q5 i o J;refine⟨s1 _ (hLs i aa),λt=>?_,f,f1,f2,f3 _ (hLs i aa)⟩;show find (eJ (Ls i) ((l1[i]?).bind (·.dst)) (v i)) t=_;rw[J];rfl
   . rintro fuel listed a' w' hsz vT TA ⟨st',c',D,ρ',⟨rfl,rfl⟩,Y,B,y,F⟩;exact VV fuel listed a' w' hsz vT TA ⟨_,D,ρ',hLs _ (ww _),Y,B,y,F⟩
  cases rest with
  |nil=>
   simp only at q1
   have rF:l2=[]:=by
    cases l2 with
    |nil=>rfl
    |cons o r=>have:=nM AX;simp at this
   subst rF;simp only[aa9]at hlen;refine⟨_,_,_,q1,λM A ρ a w L Q R cP hQ fuel listed hsz vT TA=>Oq M A ρ a w L Q R cP (λfuel listed a' w' hsz vT TA Bc=>?_) fuel listed hsz vT TA⟩;have d:=hQ a' w' Bc
   have Ks:Region.ready .any ops listed=[]:=by
    apply ac2.2;intro i I;rw[mem_ready]at I;obtain⟨z,o,J,_⟩:=I;have hlt:i < ops.size:=(aat.1 J).1;have:=vT i hlt;simp only[aae]at this z;have mU:i < listed.size:=aa
    simp[mU]at this z;simp[this]at z;omega
   cases fuel with
   |zero=>exact⟨Ks,d⟩
   |succ fuel=>exact⟨λ_=>d,λi I=>by rw[Ks]at I;simp at I⟩
  |cons p r=>
   simp only at q1
   cases l2 with
   |nil=>simp[bj]at AX
   |cons o l2=>
    simp only[bj]at AX;split at AX
    . rename_i x l' N hl';obtain⟨g,hpg,hgd⟩:=nU AX;simp only[aaz]at hpg;obtain⟨rfl,rfl⟩:=hpg;simp only[adw,LD]at S;have I:ops[lo+l1.length]? =some o:=by rw[U l1.length,aai (ww _)];simp
      obtain⟨lR,hp1,c1,c,O⟩:=Gl (n:=n) lq I N S.2.1 hgd q1;rw[<-Bb]at O
      obtain⟨tm2,hp2,c2,r3,r4⟩:=ih (lo:=lo+l1.length+1) (l:=l2) (λj=>by
       rw[show lo+l1.length+1+j=lo+(l1.length+(j+1)) by omega,U,aai aa];rw[show l1.length+(j+1) - l1.length=j+1 by omega];simp) (by rw[<-hlen];simp;omega) hl' S.2.2 O
      have aCI:=ML (VT _ _ rfl);rw[<-Bb]at aCI;refine⟨tm2,hp2,c2,r3,λM A ρ a w L Q R cP hQ fuel listed hsz vT TA=>Oq M A ρ a w L Q R cP (λfuel listed a' w' hsz vT TA Bc=>?_) fuel listed hsz vT TA⟩;have hps:lo+l1.length < ops.size:=(aat.1 I).1;obtain⟨fuel,rfl⟩: ∃f,fuel=f+1:=⟨fuel - 1,aa⟩;obtain⟨L1,A1,ρ1,t1,t2,t3,t4,t5⟩:=Bc
      have hclosed:∀k o',ops[k]? =some o'->listed.getD k false=true-> ∀e,e∈bP o'->listed.getD e false=true:=by
       intro k o' BI Z e H;have hks:k < ops.size:=(aat.1 BI).1;rw[vT k hks]at Z;have:=hE k o' BI e H;rw[vT e aa];simp at Z⊢;omega
      refine⟨λKs=>?_,λi hir=>?_⟩
      . exfalso
        have:lo+l1.length∈Region.ready .any ops listed:=by
         rw[mem_ready];refine⟨?_,o,I,λe H G=>?_⟩
         . have:=vT _ hps;simp only[aae]at this⊢;have mU:lo+l1.length < listed.size:=aa
           simp[mU]at this⊢;exact this
         . have s:e.on∈bP o:=by simp only[bP,aad,acu];exact⟨e,⟨C0,G⟩,rfl⟩
           have:=hE _ o I _ s;rw[vT e.on aa];simp;omega
        rw[Ks]at this;simp at this
      . rw[mem_ready]at hir;obtain⟨z,oi,hoi,C3⟩:=hir;have his:i < ops.size:=(aat.1 hoi).1
        have Ss:listed.getD i false=false:=by
         simp only[aae]at z⊢;have mU:i < listed.size:=aa
         simpa[mU]using z
        have hge:lo+l1.length<=i:=by
         rw[vT i his]at Ss;simp at Ss;omega
        have hip:i=lo+l1.length:=by
         rcases Nat.eq_or_lt_of_le hge with h|h
         . exact h.symm
         . exfalso;have G:=aCI.2 i h his
           have hEs:∀ (i:Nat) (b:List Nat),(ops.toList.map bP)[i]? =some b-> ∀e,e∈b->e < i:=by
            intro i b h e H;simp only[yu,aaN,jU]at h;obtain⟨o,J,rfl⟩:=h;exact hE i o J e H
           have:=(wj (L:=λk=>listed.getD k false) hEs i (by simpa using his) (λk b _ Sr kZ e H=>by
            simp only[yu,aaN,jU]at kZ;obtain⟨o,J,rfl⟩:=kZ;exact hclosed k o J Sr e H) (λb kZ e H=>by
            simp only[yu,aaN,jU]at kZ;obtain⟨o',BI,rfl⟩:=kZ;rw[hoi]at BI;simp only[ii]at BI;subst BI;simp only[bP,aad,acu]at H;obtain⟨ed,⟨g1,g2⟩,rfl⟩:=H;exact C3 ed (by simpa using g1) g2) _ G).1
           rw[vT _ hps]at this;simp at this
        subst hip;refine c M A1 ρ1 a' w' L1 Q _ t1 t2 λa2 w2 arE=>?_;obtain⟨L2,A2,ρ2,u1,u2,u3,u4,u5⟩:=arE;refine r4 M A2 ρ2 a2 w2 L2 Q u1 u2 (λa3 w3 aKq=>hQ a3 w3 ((aKq.trans u3 u4 u5).trans t3 t4 t5)) fuel _ (by simpa using hsz) (λk Z=>?_) aa
        by_cases hk':k=lo+l1.length
        . subst hk';have mU:lo+l1.length < listed.size:=aa
          simp[aae,mU]
        . have:=getD_set_ne (listed:=listed) false (λe:lo+l1.length=k=>hk' e.symm);rw[this,vT k Z];simp only[decide_eq_decide];omega
    . simp at AX
def QV(lq:tG P call)(mE:oV P fe){fuel:Nat}:∀ {c:Code} {r:Rc},aT P c=some r->jH n r=true-> ∀ {Q:Exit->Tr->HS->Nat->Bool} {tm:Tr} {hp:HS} {ctr:Nat},E false call fe P fuel r Q tm hp ctr=true->
 ∃e tm' hp' ct,Q e tm' hp' ct=true/\Run P n c tm hp ctr e tm' hp' ct:=by
 intro c
 induction c with
 |skip=>
  intro r J S Q tm hp ctr h;simp only[aT,ii]at J;subst J;exact⟨_,_,_,_,h,λM A ρ a w L K cP=>wp_skip ⟨rfl,At.here K cP⟩⟩
 |ret=>
  intro r J S Q tm hp ctr h;simp only[aT,ii]at J;subst J;exact⟨_,_,_,_,h,λM A ρ a w L K cP=>wp_ret ⟨rfl,At.here K cP⟩⟩
 |exit id=>
  intro r J S Q tm hp ctr h;simp only[aT,ii]at J;subst J;exact⟨_,_,_,_,h,λM A ρ a w L K cP=>wp_exit ⟨rfl,At.here K cP⟩⟩
 |seq x y VJ VI=>
  intro r J S Q tm hp ctr h;simp only[aT]at J;split at J
  . rename_i rx ry N R;simp only[ii]at J;subst J;simp only[jH,LD]at S;simp only[E]at h;obtain⟨s,lR,hp1,c1,O,Y⟩:=VJ N S.1 h
    cases s with
    |normal=>
     obtain⟨F,tm2,hp2,c2,B,g⟩:=VI R S.2 O;refine⟨F,tm2,hp2,c2,B,λM A ρ a w L K cP=>wp_seq (wp_mono (Y M A ρ a w L K cP) ?_)⟩;rintro e a' v ⟨rfl,L1,A1,ρ1,q1,q2,q3,q4,q5⟩;exact wp_mono (g M A1 ρ1 a' v L1 q1 q2) λe a2 w2 ⟨H,Bc⟩=>⟨H,Bc.trans q3 q4 q5⟩
    |_=>
     refine⟨_,lR,hp1,c1,O,λM A ρ a w L K cP=>wp_seq (wp_mono (Y M A ρ a w L K cP) ?_)⟩;rintro e a' v ⟨rfl,Bc⟩;exact⟨rfl,Bc⟩
  . simp at J
 |cond c x y VJ VI=>
  intro r J S Q tm hp ctr h;simp only[aT]at J;split at J
  . rename_i rx ry N R;simp only[ii]at J;subst J;simp only[jH,LD]at S;simp only[E]at h;split at h
    . rename_i b G
      have hb':∀L,ir tm L->((⟨n,L,hp⟩:St).get c).jT =some b:=λL K=>by
       rw[<-bW];rw[qp K]at G;exact G
      cases b with
      |true=>
       obtain⟨s,lR,hp1,c1,O,Y⟩:=VJ N S.1 h;exact⟨s,lR,hp1,c1,O,λM A ρ a w L K cP=>wp_cond (V.lO (hb' L K) (cP.get c)) (Y M A ρ a w L K cP)⟩
      |false=>
       obtain⟨s,lR,hp1,c1,O,Y⟩:=VI R S.2 h;exact⟨s,lR,hp1,c1,O,λM A ρ a w L K cP=>wp_cond (V.lO (hb' L K) (cP.get c)) (Y M A ρ a w L K cP)⟩
    . simp at h
  . simp at J
 |block id b ih=>
  intro r J S Q tm hp ctr h;simp only[aT]at J;split at J
  . rename_i rb G;simp only[ii]at J;subst J;simp only[jH]at S;simp only[E]at h;obtain⟨s,lR,hp1,c1,O,Y⟩:=ih G S h
    cases s with
    |exit id'=>
     simp only[Xe]at O
     cases hid:Nat.beq id' id with
     |true=>
      rw[hid]at O;have MW:id'=id:=by simpa using hid
      refine⟨_,lR,hp1,c1,O,λM A ρ a w L K cP=>wp_block (wp_mono (Y M A ρ a w L K cP) ?_)⟩;rintro e a' v ⟨rfl,Bc⟩;simp only[Exit.inBlock,MW,if_true];exact⟨trivial,Bc⟩
     |false=>
      rw[hid]at O
      have MW:¬id'=id:=by
       intro h;subst h;simp at hid
      refine⟨_,lR,hp1,c1,O,λM A ρ a w L K cP=>wp_block (wp_mono (Y M A ρ a w L K cP) ?_)⟩;rintro e a' v ⟨rfl,Bc⟩;simp only[Exit.inBlock,MW,if_false];exact⟨trivial,Bc⟩
    |_=>
     refine⟨_,lR,hp1,c1,O,λM A ρ a w L K cP=>wp_block (wp_mono (Y M A ρ a w L K cP) ?_)⟩;rintro e a' v ⟨rfl,Bc⟩;exact⟨rfl,Bc⟩
  . simp at J
 |loop b ih=>
  intro r J S Q tm hp ctr h;simp only[aT]at J;split at J
  . rename_i rb G;simp only[ii]at J;subst J;simp only[jH]at S;simp only[E]at h
    have key:∀ (k:Nat) (tm:Tr) (hp:HS) (ctr:Nat),K5 false (λself=>E false call fe P fuel rb (WV self Q)) k tm hp ctr=true->
     ∃e tm' hp' ct,Q e tm' hp' ct=true/\ ∀ (M A:agt) (ρ:Env) (a:Act) (w:World) (L:TS) (Z:Frame) (kk:List _) (cs:List _),ir tm L->Rel M A ρ (bJ ctr) ⟨n,L,hp⟩ a w->
      ∃a' v,At M A ρ w n tm' hp' ct a' v/\Arrives P (lone (Z.at a (.code b:: .inLoop b::kk)) cs w) Z kk cs e a' v:=by
     intro k
     induction k with
     |zero=>intro tm hp ctr h;simp[K5]at h
     |succ k ihk=>
      intro tm hp ctr h;simp only[K5]at h;obtain⟨s,lR,hp1,c1,O,Y⟩:=ih G S h
      cases s with
      |normal=>
       obtain⟨F,tm2,hp2,c2,B,g⟩:=ihk lR hp1 c1 O;refine⟨F,tm2,hp2,c2,B,λM A ρ a w L Z kk cs K cP=>?_⟩;obtain⟨e,a1,w1,⟨rfl,L1,A1,ρ1,q1,q2,q3,q4,q5⟩,iZ⟩:=Y M A ρ a w L K cP Z (.inLoop b::kk) cs;obtain⟨a2,w2,Bc,xF⟩:=g M A1 ρ1 a1 w1 L1 Z kk cs q1 q2;exact⟨a2,w2,Bc.trans q3 q4 q5,.of_steps (Steps.trans iZ (.one step_inLoop)) xF⟩
      |_=>
       refine⟨_,lR,hp1,c1,O,λM A ρ a w L Z kk cs K cP=>?_⟩;obtain⟨e,a1,w1,⟨rfl,Bc⟩,iZ⟩:=Y M A ρ a w L K cP Z (.inLoop b::kk) cs;exact⟨a1,w1,Bc,.pass (x:= .inLoop b) rfl (λ_ _=> .inl ak) iZ⟩
    obtain⟨e,tm',hp',ct,O,Y⟩:=key fuel tm hp ctr h;refine⟨e,tm',hp',ct,O,λM A ρ a w L K cP Z kk cs=>?_⟩;obtain⟨a',v,Bc,iZ⟩:=Y M A ρ a w L Z kk cs K cP;exact⟨e,a',v,⟨rfl,Bc⟩,.of_steps (.one step_loop) iZ⟩
  . simp at J
 |region id ops d=>
  intro r J S Q tm hp ctr h
  cases d with
  |true=>
   simp only[aT]at J;split at J
   . rename_i l U;split at J
     . rename_i D;simp only[LD]at D;simp only[ii]at J;subst J;simp only[jH]at S;simp only[E]at h
       have hE:∀i o,ops[i]? =some o-> ∀e,e∈bP o->e < i:=by
        intro i o z e H;have:=mY D.2 i (bP o) (by simp[z]) e H;omega
       have Bb:=nM U;rw[Bb]at h;obtain⟨tm',hp',ct,O,Y⟩:=I2 lq mE (n:=n) hE (lo:=0) (l:=ops.toList) (λj=>by simp) ak U S bc;refine⟨_,_,_,_,O,λM A ρ a w L K cP=>wp_region_any D.1 ?_⟩;refine Y M A ρ a _ L _ K cP.drew (λa' v Bc=>?_) ops.size _ ak (λi I=>by simp[I]) aa;exact⟨rfl,Bc.trans (dA.drew M w) (dD.refl _) (bY.refl _ _)⟩
     . simp at J
   . simp at J
  |false=>
   simp only[aT]at J;split at J
   . rename_i l U;simp only[ii]at J;subst J;simp only[jH]at S;simp only[E]at h;obtain⟨tm',hp',ct,O,Y⟩:=DR lq (n:=n) (ops:=ops) (k:=0) (l:=ops.toList) (λj=>by simp) U S h;refine⟨_,_,_,_,O,λM A ρ a w L K cP=>wp_region ?_⟩;have:=Y M A ρ a w L (λF a' v=>F= .normal/\At M A ρ w n tm' hp' ct a' v) K cP (λ_ _ Bc=>⟨rfl,Bc⟩);rw[aen];simpa using this
   . simp at J
 |_=>intro r J;simp[aT]at J
end Go.aW
namespace Go.aW
open Go
inductive Rv where
 |tmp (t:Nat)
 |cell (t:Nat) (n:Option Nat)
def dU(P:Program):List ResultVar->Option (List Rv)
 | []=>some []
 | .tmp t::r=>match dU P r with
   |some l=>some (.tmp t::l)|none=>none
 | .cell t w::r=>match L9 P w,dU P r with
   |some n,some l=>some (.cell t n::l)|_,_=>none
section
variable{α:Type}(bad:α)
def Cr(tm:Tr)(hp:HS):List Rv->(Lw->α)->α
 | [],k=>k []
 | .tmp t::r,k=>match tm.get (key t)with
   |some (.w u)=>Cr tm hp r λA=>k (u::A)|_=>bad
 | .cell t n::r,k=>match tm.get (key t)with
   |some (.w (.one c))=>Il bad hp c λR j=>JN bad n R j λv=>match v with
    | .w u=>Cr tm hp r λA=>k (u::A)|_=>bad
   |_=>bad
def uO{β γ:Type}(f:β->(γ->α)->α):List β->(List γ->α)->α
 | [],k=>k []|x::r,k=>f x λy=>uO f r λl=>k (y::l)
def ov:Nat->HS->C->(T->α)->α
 |_,_,.t x,k=>k x|0,_,_,_=>bad
 |d+1,F,.own id N i len,k=>match find F id with
  |some (.row D o)=>ki (Nat.beq D N&&Nat.ble (i+len) o.length) (uO (uO (ov d F)) ((o.drop i).take len) λZ=>k (.aO N Z)) bad|_=>bad
 |_+1,_,_,_=>bad
def Wq(hp:HS):W->(W->α)->α
 | .one c,k=>ov bad 6 hp c λt=>k (.one (.t t))| .agg R,k=>uO (ov bad 6 hp) R λZ=>k (.agg (Z.map .t))
end
def bB{β γ:Type}(f:β->Option γ):List β->Option (List γ)
 | []=>some []
 |x::r=>match f x,bB f r with
  |some y,some l=>some (y::l)|_,_=>none
def cA:Nat->HS->C->Option T
 |_,_,.t x=>some x|0,_,_=>none
 |d+1,F,.own id N i len=>match find F id with
  |some (.row D o)=>if D=N/\i+len<=o.length then(bB (bB (cA d F)) ((o.drop i).take len)).map (.aO N)else none
  |_=>none
 |_+1,_,_=>none
def qd{β γ:Type}{f:β->(γ->Bool)->Bool}{g:β->Option γ}(R:∀x k,f x k=true-> ∃y,g x=some y/\k y=true):∀ {l:List β} {k:List γ->Bool},uO f l k=true-> ∃A,bB g l=some A/\k A=true
 | [],k,h=>⟨[],rfl,h⟩
 |x::r,k,h=>by
  simp only[uO]at h;obtain⟨y,O,Y⟩:=R _ _ h;obtain⟨A,B,s⟩:=qd R Y;exact⟨_,by simp only[bB,O,B],s⟩
def Ia:∀ {d:Nat} {hp:HS} {c:C} {k:T->Bool},ov false d hp c k=true-> ∃t,cA d hp c=some t/\k t=true
 |d,hp,.t x,k,h=>⟨x,by cases d<;>rfl,by cases d<;>exact h⟩
 |0,hp,.own ..,k,h=>jQ
 |0,hp,.ptr ..,k,h=>jQ
 |0,hp,.yz ..,k,h=>jQ
 |0,hp,.oO ..,k,h=>jQ
 |0,hp,.any,k,h=>jQ
 |0,hp,.map _,k,h=>jQ
 |0,hp,.it _,k,h=>jQ
 |0,hp,.Ix ..,k,h=>jQ
 |0,hp,.pk ..,k,h=>jQ
 |d+1,hp,.own id N i len,k,h=>by
  simp only[ov]at h;split at h
  . rename_i J o R;obtain⟨D,h⟩:=cj h;simp only[LD,adr,abv]at D;obtain⟨Z,O,Y⟩:=qd (λx k h=>qd (λy k h=>Ia h) h) h;exact⟨_,by simp only[cA,R,if_pos D,O,wv],Y⟩
  . simp at h
 |d+1,hp,.ptr ..,k,h=>jQ
 |d+1,hp,.yz ..,k,h=>jQ
 |d+1,hp,.oO ..,k,h=>jQ
 |d+1,hp,.any,k,h=>jQ
 |d+1,hp,.map _,k,h=>jQ
 |d+1,hp,.it _,k,h=>jQ
 |d+1,hp,.Ix ..,k,h=>jQ
 |d+1,hp,.pk ..,k,h=>jQ
def iR{β γ:Type}{g:β->Option γ}:∀ {l:List β} {A:List γ},bB g l=some A->A.length=l.length
 | [],A,h=>by simp only[bB,ii]at h;subst h;rfl
 |x::r,A,h=>by
  simp only[bB]at h;split at h
  . rename_i y K O Y;simp only[ii]at h;subst h;simp[iR Y]
  . simp at h
def eZ{β γ:Type}{g:β->Option γ}:∀ {l:List β} {A:List γ},bB g l=some A-> ∀ (i:Nat) (y:γ),A[i]? =some y-> ∃x,l[i]? =some x/\g x=some y
 | [],A,h,i,y,G=>by simp only[bB,ii]at h;subst h;simp at G
 |x::r,A,h,i,y,G=>by
  simp only[bB]at h;split at h
  . rename_i a K O Y;simp only[ii]at h;subst h
    cases i with
    |zero=>simp only[yq,ii]at G;subst G;exact⟨x,ak,O⟩
    |succ i=>obtain⟨b,B,s⟩:=eZ Y i y zq;exact⟨b,by simpa using B,s⟩
  . simp at h
variable{P:Program}{M A:agt}{ρ:Env}{F:agt}{st:St}{a:Act}{w:World}
def qt(h:Rel M A ρ F st a w){B:agt}(hBA:∀b,B b->A b)(g:∀id blk b,find st.heap id=some blk->ρ id=some (.gD b)->¬B b):
 ∀ {d:Nat} {c:C} {t:T} {x:Value},cA d st.heap c=some t->RC w A ρ c x->RT w B t x
 |d,.t y,t,x,R,J=>by
  have:t=y:=by cases d<;>simpa[cA]using R.symm
  subst this;exact RT.keeps (w:=w) ⟨ww _,λb _ K=>⟨rfl,λG=>K (hBA b G)⟩⟩ J
 |0,.own ..,t,x,R,J=>kE
 |0,.ptr ..,t,x,R,J=>kE
 |0,.yz ..,t,x,R,J=>kE
 |0,.oO ..,t,x,R,J=>kE
 |0,.any,t,x,R,J=>kE
 |0,.map _,t,x,R,J=>kE
 |0,.it _,t,x,R,J=>kE
 |0,.Ix ..,t,x,R,J=>kE
 |0,.pk ..,t,x,R,J=>kE
 |d+1,.ptr ..,t,x,R,J=>kE
 |d+1,.yz ..,t,x,R,J=>kE
 |d+1,.oO ..,t,x,R,J=>kE
 |d+1,.any,t,x,R,J=>kE
 |d+1,.map _,t,x,R,J=>kE
 |d+1,.it _,t,x,R,J=>kE
 |d+1,.Ix ..,t,x,R,J=>kE
 |d+1,.pk ..,t,x,R,J=>kE
 |d+1,.own id P i len,t,x,R,J=>by
  simp only[cA]at R;split at R
  . rename_i sz' l Y2;split at R
    . rename_i N;simp only[jU]at R;obtain⟨U,hts,rfl⟩:=R;have H:elems st.heap (.own id P i len)=some (P,(l.drop i).take len):=by simp only[elems,Y2,if_pos N]
      obtain⟨hsz,b0,aK8,hx0,V3⟩:=nx h H J
      by_cases hne:(l.drop i).take len=[]
      . rw[hne]at hts;simp only[bB,ii]at hts;subst hts;rw[hx0,hne];exact .nil
      . obtain⟨b,o,cap,rfl,hcell⟩:=mv h H J hne;simp only[Value.slice.injEq]at hx0;obtain⟨_,_,rfl⟩:=hx0
        have O:ρ id=some (.gD b)/\b < w.heap.size:=by
         rcases J with⟨v,cap',q,e',s,S,z,k4,k5⟩|⟨_,_,Y,D⟩
         . simp only[Value.slice.injEq,ii,Addr.mk.injEq]at S;obtain⟨⟨rfl,_⟩,_⟩:=S;refine⟨s,?_⟩;rcases aa8 b w.heap.size with r|hge
           . exact r
           . simp[World.shape?,aav hge]at k4
         . simp at D
        have M4:∀ (i':Nat) (e:Lt) (j:Nat) (t:T),U[i']? =some e->e[j]? =some t-> ∃y,w.cell? ⟨b,o+(i' * P+j),none⟩=some y/\RT w B t y:=by
         intro i' e j t I Q;obtain⟨n,hel,hfe⟩:=eZ hts i' e I;obtain⟨c,hcc,hfc⟩:=eZ hfe j t Q;obtain⟨y,L,hry,_⟩:=hcell i' n j c hel hcc;exact⟨y,L,qt h hBA g hfc hry⟩
        have hE:RT w B (.aO P U) (.slice (some ⟨b,o,none⟩) ((l.drop i).take len).length cap):=by
         refine .aO (λi j=>(w.cell? ⟨b,o+(i * P+j),none⟩).getD undef) (iR hts).symm V3 O.2 (g id _ b Y2 O.1) (λe he'=>?_) (λi e j t I Q=>?_) (λi e j t I Q=>?_)
         . obtain⟨k,Z,hke⟩:=aa3 he';obtain⟨n,hel,hfe⟩:=eZ hts k e (by rw[<-hke];simp[Z]);rw[iR hfe];exact hsz n (oo hel)
         . obtain⟨y,L,_⟩:=M4 i e j t I Q;rw[ab3,L];rfl
         . obtain⟨y,L,cU⟩:=M4 i e j t I Q;rw[L];exact cU
        exact hE
    . simp at R
  . simp at R
def bM(hp:HS):W->Option W
 | .one c=>(cA 6 hp c).map λt=> .one (.t t)| .agg R=>(bB (cA 6 hp) R).map λZ=> .agg (Z.map .t)
def PT{hp:HS}{u:W}{k:W->Bool}(h:Wq false hp u k=true): ∃g,bM hp u=some g/\k g=true:=by
 cases u with
 |one c=>obtain⟨t,O,Y⟩:=Ia h;exact⟨_,by simp only[bM,O,wv],Y⟩
 |agg R=>obtain⟨t,O,Y⟩:=qd (λx k h=>Ia h) h;exact⟨_,by simp only[bM,O,wv],Y⟩
variable{g:W}{us vs:Lw}{hp':HS}{ctr ct:Nat}{e:Exit}{tm':Tr}
def ja(h:Rel M A ρ F st a w){B:agt}(e:∀b,B b->A b)(N:∀id blk b,find st.heap id=some blk->ρ id=some (.gD b)->¬B b){u:W}{x:Value}
 (R:bM st.heap u=some g) (J:RW w A ρ u x) (ρ':Env):RW w B ρ' g x:=by
 cases u with
 |one c=>
  simp only[bM,jU]at R;obtain⟨t,O,rfl⟩:=R;exact⟨qt h e N O J.1,J.2⟩
 |agg L=>
  simp only[bM,jU]at R;obtain⟨S,O,rfl⟩:=R;obtain⟨o,rfl,Y,D⟩:=J;refine⟨o,rfl,by simp[iR O,Y],λk c y Z G=>?_⟩;simp only[yu,jU]at Z;obtain⟨t,Q,rfl⟩:=Z;obtain⟨z,P,d⟩:=eZ O k t Q;obtain⟨r,U⟩:=D k z y P G;exact⟨qt h e N d r,U⟩
structure Gk where
 n:Nat
 code:Rc
 res:List Rv
 flat:Bool
 inl:Bool
def IU(P:Program)(f:FuncId)(fr:Gk):Prop:=
 ∃I c,P.funcs[f]? =some I/\I.body=some c/\aT P c=some fr.code/\I.ntmps=fr.n/\dU P I.results.toList=some fr.res/\jH fr.n fr.code=true
def BB{tm:Tr}{hp:HS}:∀ {rs:List ResultVar} {b:List Rv} {k:Lw->Bool},dU P rs=some b->Cr false tm hp b k=true->
 ∃us,(∀L,ir tm L->bg P hp L rs=some us)/\k us=true
 | [],b,k,J,h=>by
   simp only[dU,ii]at J;subst J;exact⟨[],λ_ _=>rfl,h⟩
 | .tmp t::r,b,k,J,h=>by
   simp only[dU]at J;split at J
   . rename_i l U;simp only[ii]at J;subst J;simp only[Cr]at h;split at h
     . rename_i u g;obtain⟨us,O,Y⟩:=BB U h;refine⟨u::us,λL R=>?_,Y⟩;rw[<-R t]at g;simp only[bg,de,g,O L R]
     . simp at h
   . simp at J
 | .cell t w::r,b,k,J,h=>by
   simp only[dU]at J;split at J
   . rename_i n l K U;simp only[ii]at J;subst J;simp only[Cr]at h;split at h
     . rename_i c D;obtain⟨Z,j,O,Y⟩:=F4 h;obtain⟨u,B,s⟩:=oy (P:=P) K (xa Y);simp only at s;obtain⟨us,F,a⟩:=BB U s;refine⟨u::us,λL R=>?_,a⟩;rw[<-R t]at D;have H:gA P w (.w (.one c)) hp=some (.w u):=by simp only[gA,O,B,wv]
       simp only[bg,de,D,H,F L R]
     . simp at h
   . simp at J
def Kj{α:Type}:Nat->Lw->Tr->(Tr->α)->α
 |_,[],d,k=>k d|n,u::r,d,k=>Tr.put (key n) d (.w u) λd=>tR (n+1) λm=>Kj m r d k
def nT:Nat->Lw->Tr->Tr
 |_,[],d=>d|n,u::r,d=>nT (n+1) r (Tr.set (key n) d (.w u))
def CR{α:Type}:∀ (us:Lw) (n:Nat) (tm:Tr) (k:Tr->α),Kj n us tm k=k (nT n us tm)
 | [],n,tm,k=>rfl
 |u::r,n,tm,k=>by simp only[Kj,nT,Tr.put_eq,fu,CR r]
def FE:∀ (us:Lw) (n:Nat) (tm:Tr) (L:TS),ir tm L->(∀t,n<=t->find L t=none)->ir (nT n us tm) (dz n us++L)
 | [],n,tm,L,h,_=>h
 |u::r,n,tm,L,h,K=>by
  have c:=FE r (n+1) (Tr.set (key n) tm (.w u)) ((n,.w u)::L) (h.put (some n) (.w u)) (λt Q=>by rw[aF,if_neg aa];exact K t aa);intro t;rw[nT, <-c t];simp only[dz,ab8,aF,dO]
  by_cases e:n=t
  . subst e
    have:find (dz (n+1) r) n=none:=by
     cases h':find (dz (n+1) r) n with
     |none=>rfl
     |some v=>have:=(eS _ _ _ _ h').1;omega
    simp[this]
  . simp[e]
def R5(us:Lw):ir (nT 0 us .nil) (dz 0 us):=by
 have:=FE us 0 .nil [] (λt=>by rw[Tr.BL];rfl) (λt _=>rfl);simpa using this
def Rel.toM{n:agt}(h:Rel n A ρ F st a w)(j:∀b,n b->M b)(g:∀b,w.heap.size<=b->M b)(vU:uw M A w):Rel M A ρ F st a w:=by
 refine⟨h.size,h.defers,h.tmps,λid L G=>?_,h.inj,h.fresh,h.bound,g,vU⟩;have:=h.heap id L G
 cases L with
 |row N o=>
  obtain⟨O,Y⟩:=this;refine⟨O,?_⟩;rcases Y with⟨b,c,e,s,v,z⟩|Y
  . exact .inl ⟨b,c,e,s,j b v,z⟩
  . exact .inr Y
 |mp B I=>
  obtain⟨b,d,s,v,z⟩:=this;exact⟨b,d,s,j b v,z⟩
def Rel.own{id:Nat}{blk:bE}{b:Nat}(h:Rel M A ρ F st a w)(R:find st.heap id=some blk)(H:ρ id=some (.gD b)):M b/\A b/\b < w.heap.size:=by
 have:=(h.heap id blk R).lt H;exact⟨this.2.1,this.2.2,this.1⟩
def uP(e:Exit):Prop:=e= .normal\/e= .ret
variable{fr:Gk}
def DB{f:FuncId}(n:IU P f fr){hp:HS}(K:us.length<=fr.n)(H:uP e)
 (Y:∀c,(∃I,P.funcs[f]? =some I/\I.body=some c)->Run P fr.n c (nT 0 us .nil) hp ctr e tm' hp' ct) (hres:∀I,P.funcs[f]? =some I-> ∀L,ir tm' L->bg P hp' L I.results.toList=some vs)
 {M A:agt} {ρ:Env} {w:World} {xs:Array Value} (J:HR M A ρ (bJ ctr) hp w) (hx:DJ w A ρ us xs.toList):
 Calls P f xs w λe w'=> ∃x d ρ',e= .returned x/\HR M d ρ' (bJ ct) hp' w'/\RV w' d ρ' (aR vs) x/\dA M w w'/\dD ρ ρ'/\bY A d w:=by
 obtain⟨I,c,R,G,hrc,hnt,YX,hds⟩:=n;refine calls_of_wp R G ?_;have U:us.length=xs.size:=by simpa using hx.1
 have cP:Rel M A ρ (bJ ctr) ⟨fr.n,dz 0 us,hp⟩ {tmps:=xs++Array.replicate (I.ntmps - xs.size) undef,defers:=[]} w:=by
  refine⟨by simp;omega,rfl,λt v z=>?_,J.heap,J.inj,J.fresh,J.bound,J.may,J.dR⟩;obtain⟨_,u,g,rfl⟩:=eS _ _ _ _ z;simp only[ad4]at g;have Q:t < xs.size:=by rw[<-U];exact(jl.1 g).1
  have yA:xs.toList[t]? =some xs[t]:=Fc
  have:=hx.2 t u _ g yA;have e:(xs++Array.replicate (I.ntmps - xs.size) undef).getD t undef=xs[t]:=by simp[aae,abz Q,Q]
  rw[e];exact this
 refine wp_mono (Y c ⟨I,R,G⟩ M A ρ _ w _ (R5 us) cP) ?_;rintro o Z w' ⟨rfl,L',d,ρ',hL',O,j,cI,D⟩;have iG:=hres I R L' hL';obtain⟨F,hvs,N⟩:=eA O iG
 have l:(I.results.mapM λ(r:ResultVar)=>match r with
  | .tmp t=>(pure (Z.tmps.getD t undef):Sem Value)
  | .cell b t=>do loadVar t (<-asAddr (Z.tmps.getD b undef))).run P w'= .ok F.toArray w':=by
  rw[ab1];simp only[Sem.run_map];exact(congrArg (λr:Result (List Value)=>Result.andThen r λa w'=>Result.ok a.toArray w') hvs).trans rfl
 have Y:(results I Z.tmps).run P w'= .ok (if h:F.toArray.size=1 then F.toArray[0]else .tuple F.toArray) w':=by
  show(Bind.bind (I.results.mapM λ(r:ResultVar)=>match r with
   | .tmp t=>(pure (Z.tmps.getD t undef):Sem Value)
   | .cell b t=>do loadVar t (<-asAddr (Z.tmps.getD b undef))) λvs=>Pure.pure (if h:vs.size=1 then vs[0]else .tuple vs)).run P w'=_
  rw[Sem.run_bind,l];rfl
 have fin:Z.defers=[]/\ ∃v,(results I Z.tmps).run P w'= .ok v w'/\ ∃x d ρ',Ending.returned v= .returned x/\HR M d ρ' (bJ ct) hp' w'/\RV w' d ρ' (aR vs) x/\dA M w w'/\dD ρ ρ'/\bY A d w:=by
  refine⟨O.defers,_,Y,_,d,ρ',rfl,⟨rfl,rfl,λt v z=>by simp[find]at z,O.heap,O.inj,O.fresh,O.bound,O.may,O.dR⟩,?_,j,cI,D⟩
  match vs,F,N with
  | [],[],_=>exact⟨#[],ak,rfl,ak⟩
  | [u],[v],N=>exact N.2 0 u v rfl rfl
  |u::u2::r,v::v2::s,N=>
   have S:¬ (v::v2::s).toArray.size=1:=ak
   simp only[S,dite_false];exact⟨_,rfl,by simpa using N.1,λk x y hx B=>N.2 k x y hx (by simpa using B)⟩
  | [],_::_,N=>exact absurd N.1 ak
  |_::_,[],N=>exact absurd N.1 ak
  | [_],_::_::_,N=>exact absurd N.1 ak
  |_::_::_,[_],N=>exact absurd N.1 ak
 rcases H with rfl|rfl
 . exact fin
 . exact fin
def Dz{f:FuncId}(hok:IU P f fr){hp:HS}(K:us.length<=fr.n)(H:uP e)
 (hrun:∀c,(∃fn,P.funcs[f]? =some fn/\fn.body=some c)->Run P fr.n c (nT 0 us .nil) hp ctr e tm' hp' ct) (hres:∀fn,P.funcs[f]? =some fn-> ∀L,ir tm' L->bg P hp' L fn.results.toList=some vs):
 kU P f us hp ctr (aR vs) hp' ct:=by
 intro M A ρ a w n L o J N
 let M':Nat->Prop:=λb=>(M b/\A b)\/w.heap.size<=b
 have hH:HR M' A ρ (bJ ctr) hp w:=by
  refine⟨rfl,rfl,λt v z=>by simp[find]at z,λid blk G=>?_,J.inj,J.fresh,J.bound,λb G=> .inr G,J.dR.sub (λb G r=>r.elim (λh=>h.1) (λh=>by omega)) (λ_ h=>h)⟩;have:=J.heap id blk G
  cases blk with
  |row D Q=>
   obtain⟨O,Y⟩:=this;refine⟨O,?_⟩;rcases Y with⟨b,c,e,s,S,R,k4⟩|Y
   . exact .inl ⟨b,c,e,s,.inl ⟨S,R⟩,R,k4⟩
   . exact .inr Y
  |mp y clock=>
   obtain⟨b,en,s,S,R,k4⟩:=this;exact⟨b,en,s,.inl ⟨S,R⟩,R,k4⟩
 refine(DB hok K H hrun hres hH N).mono ?_;rintro e j ⟨x,l,F,rfl,O,Y,B,g,U⟩;have hM:∀b,M' b->M b:=λb G=>G.elim (λh=>h.1) (J.may b);have hmay:∀b,j.heap.size<=b->M b:=λb G=>J.may b (aal B.size G)
 have Z:dS A l w j:=⟨B.size,λb G VW=>⟨B.block b G (λr=>by
  rcases r with r|r
  . exact VW r.2
  . omega),λI=>VW (U.2 b G I)⟩⟩
 refine⟨x,l,F,rfl,?_,Y,B.weaken (λi _ d=>hM i d),g,U⟩;have hrM:=O.toM hM hmay (J.dR.LN (B.weaken (λi _ d=>hM i d)) U.2);exact⟨J.size,J.defers,λt v z=>(J.tmps t v z).keeps Z B.shape g,hrM.heap,hrM.inj,hrM.fresh,hrM.bound,hrM.may,hrM.dR⟩
def SA{f:FuncId}(M:IU P f fr){ts:Lw}(K:us.length<=fr.n)(H:uP e)
 (a:∀c,(∃I,P.funcs[f]? =some I/\I.body=some c)->Run P fr.n c (nT 0 us .nil) [] 4 e tm' hp' ct) (hres:∀I,P.funcs[f]? =some I-> ∀L,ir tm' L->bg P hp' L I.results.toList=some vs)
 (hts:bB (bM hp') vs=some ts):Fn P f us [] (aR ts) []:=by
 intro w A ρ o hH hxs;refine(DB M K H a hres hH hxs).mono ?_;rintro e j ⟨x,l,S,rfl,O,Y,B,U,F⟩
 have D:∀id d b,find hp' id=some d->S id=some (.gD b)->¬A b:=by
  intro id d b hf hρ hA;have N:=(O.own hf hρ).1;rcases N with⟨id',gU,qj,_⟩|N
  . simp[find]at qj
  . have:=hH.bound b hA;omega
 refine⟨x,A,ρ,bJ 4,rfl,?_,⟨rfl,rfl,λt v z=>by simp[find]at z,λid d G=>by simp[find]at G,λid id' b Z q G=>by simp[find]at G,hH.fresh,λb G=>aar (hH.bound b G) B.size,λb G=> .inr (aal B.size G),hH.dR.LN B (λ_ _ h=>h)⟩,B,jm.refl _,bY.refl _ _⟩;have n:=iR hts
 have one:∀ (k:Nat) (u:W) (y:Value),ts[k]? =some u->(∀v,vs[k]? =some v->RW j l S v y)->RW j A ρ u y:=by
  intro k u y g z;obtain⟨v,kV,Ku⟩:=eZ hts k u g;exact ja (st:=⟨0,[],hp'⟩) O (λb G=>F.1 b G) D Ku (z v kV) ρ
 match vs,ts,n with
 | [],[],_=>
   obtain⟨Q,J,h7,_⟩:=Y;exact⟨Q,J,h7,λk u y g=>by simp at g⟩
 | [v],[u],_=>exact one 0 u x rfl (λv' kV=>by simp only[yq,ii]at kV;subst kV;exact Y)
 |v::v2::r,u::u2::s,n=>
  obtain⟨Q,rfl,J,h7⟩:=Y;refine⟨Q,rfl,by rw[<-J];simpa using n,λk u' y g R=>one k u' y g (λv' kV=>h7 k v' y kV R)⟩
 | [],_::_,n=>simp at n
 |_::_,[],n=>simp at n
 | [_],_::_::_,n=>simp at n
 |_::_::_,[_],n=>simp at n
def wm(us:Lw):Bool:=us.all W.cR
def vw{n:Nat}{u:W}(h:u.cR=true):u.up n=u:=by
 cases u with
 |one c=>cases c<;>simp[W.cR,C.cR]at h;rfl
 |agg R=>
  simp only[W.cR,yt]at h;simp only[W.up,W.agg.injEq]
  have:∀c,c∈R->c.up n=id c:=by
   intro c D;have:=h c D;cases c<;>simp[C.cR]at this
   rfl
  rw[abr this];simp
def jw{hp:HS}{u:W}(h:bM hp u=some g):g.cR=true:=by
 cases u with
 |one c=>
  simp only[bM,jU]at h;obtain⟨t,_,rfl⟩:=h;rfl
 |agg R=>
  simp only[bM,jU]at h;obtain⟨t,_,rfl⟩:=h;simp[W.cR,C.cR]
def V.cR:V->Bool
 | .w u=>u.cR| .fB F=>F.all W.cR| .undef=>false
def V.vw{n:Nat}{v:V}(h:v.cR=true):v.up n=v:=by
 cases v with
 |w u=>simp only[V.cR]at h;simp only[V.up,Go.aW.vw h]
 |fB F=>
  simp only[V.cR,yt]at h;simp only[V.up,V.fB.injEq];have:∀c,c∈F->c.up n=id c:=λc D=>Go.aW.vw (h c D);rw[abr this];simp
 |undef=>rfl
def wU{ts:Lw}(h:ts.all W.cR=true):(aR ts).cR=true:=by
 match ts with
 | []=>rfl
 | [u]=>simpa[aR,V.cR]using h
 |_::_::_=>simpa only[aR,V.cR]using h
def C.plain:C->Bool
 | .t (.val (.int ..))| .t (.val (.bool _))| .t (.val (.string _))=>true|_=>false
def W.plain:W->Bool
 | .one c=>c.plain| .agg R=>R.all C.plain
def V.plain:V->Bool
 | .w u=>u.plain| .fB F=>F.all W.plain| .undef=>false
end Go.aW
namespace Go.aW
open Go
section
variable{α:Type}(bad:α)
def qE(P:Program)(call:AH α)(a:AI α)(fuel:Nat)(fr:Gk)(us:Lw)(k:V->α):α:=
 ki (Nat.ble us.length fr.n) (Kj 0 us .nil λd=>E bad call a P fuel fr.code (λe s b _=>match e with
  | .normal=>Cr bad s b fr.res λo=>uO (Wq bad b) o λZ=>k (aR Z)| .ret=>Cr bad s b fr.res λo=>uO (Wq bad b) o λZ=>k (aR Z)
  |_=>bad) d [] 4) bad
def HK(P:Program)(call:AH α)(a:AI α)(fuel:Nat)(fr:Gk)(us:Lw)(hp:HS)(ctr:Nat)(K:V->HS->Nat->α):α:=
 ki (Nat.ble us.length fr.n) (Kj 0 us .nil λd=>E bad call a P fuel fr.code (λe s b U=>match e with
  | .normal=>Cr bad s b fr.res λo=>K (aR o) b U| .ret=>Cr bad s b fr.res λo=>K (aR o) b U
  |_=>bad) d hp ctr) bad
variable(P:Program)(EB:Nat->Option Gk)(On:Nat->Lw->Option V)(fuel:Nat)
def cQ:Nat->AH α×AI α
 |0=>(λ_ _ _ _ _=>bad,λ_ _ _ _ _=>bad)
 |d+1=>
  (λf A F e K=>match EB f with
    |some s=>ki s.inl (HK bad P (cQ d).1 (cQ d).2 fuel s A F e K)
      (ki (wm A) (match On f A with
        |some v=>tR (e+4) λc=>K v F c
        |none=>qE bad P (cQ d).1 (cQ d).2 fuel s A λv=>tR (e+4) λc=>K v F c)
      (ki (s.flat&& (bB (bM F) A).isSome) (uO (Wq bad F) A λZ=>match On f Z with
        |some v=>ki v.flat (tR (e+4) λc=>K v F c) bad
        |none=>qE bad P (cQ d).1 (cQ d).2 fuel s Z λv=>ki v.flat (tR (e+4) λc=>K v F c) bad)
      (HK bad P (cQ d).1 (cQ d).2 fuel s A F e K)))
    |none=>bad,
   λf A F _ K=>match EB f with
    |some s=>ki (wm A) (match On f A with
      |some v=>K v F
      |none=>qE bad P (cQ d).1 (cQ d).2 fuel s A λv=>K v F)
      (match iU F A with
        |some Z=>match On f Z with
         |some v=>ki v.flat (K v F) bad|none=>qE bad P (cQ d).1 (cQ d).2 fuel s Z λv=>ki v.flat (K v F) bad
        |none=>bad)
    |none=>bad)
end
variable{P:Program}
variable{us:Lw}{ctr:Nat}{v:V}{fr:Gk}
def gH{f:FuncId}{hp:HS}(z:v.cR=true)(L:wm us=true)(h:Fn P f us [] v []):gY P hp ctr f us v hp:=
 .inl ⟨v,[],us,h.toF,(V.vw z).symm,rfl,.inl ⟨rfl,L⟩⟩
def Ax{f:FuncId}{ts:Lw}{hp:HS}(z:v.cR=true)(U:iU hp us=some ts)(x:v.flat=true)(h:Fn P f ts [] v []):gY P hp ctr f us v hp:=
 .inl ⟨v,[],ts,h.toF,(V.vw z).symm,rfl,.inr ⟨U,x,λid L G=>by simp[find]at G⟩⟩
def ri{f:FuncId}{ts:Lw}{hp:HS}(z:v.cR=true)(U:bB (bM hp) us=some ts)(hfl:v.flat=true)(hfn:Fn P f ts [] v []):kU P f us hp ctr v hp (ctr+4):=by
 intro M A ρ a w n L o h N
 have H:∀ (ρ0:Env),(λb=>pK ρ0 [] b\/w.heap.size<=b)=λb=>w.heap.size<=b:=by
  intro ρ0;funext b;simp[pK,find]
 have empty:HR (λb=>pK (λ_=>none) [] b\/w.heap.size<=b) (λ_=>False) (λ_=>none) (bJ 4) [] w:=
  ⟨rfl,rfl,λt v z=>by simp[find]at z,λid b G=>by simp[find]at G,λid F b K c G=>by simp[find]at G,λ_ _=>rfl,λ_ h=>h.elim,λb G=> .inr G,h.dR.sub (λb G r=>r.elim (λd=>by obtain⟨_,_,R,_⟩:=d;simp[find]at R) (λU=>by omega)) (λ_ h=>h.elim)⟩
 have hx':DJ w (λ_=>False) (λ_=>none) ts o.toList:=⟨(iR U).trans N.1,λk u x g yA=>by
  obtain⟨c,D,hlc⟩:=eZ U k u g;exact ja (st:=⟨n,L,hp⟩) h (λ_ G=>G.elim) (λ_ _ _ _ _ G=>G) hlc (N.2 k c x D yA) _⟩
 refine(hfn w (λ_=>False) (λ_=>none) o empty hx').mono ?_;rintro e j ⟨x,A1,ρ1,F1,rfl,hvx,J,S,_,I⟩;rw[H]at J S;obtain⟨A2,s,y,B,Y,Z,r5⟩:=Rel.import (st:=⟨n,L,hp⟩) h (nid:=ctr) (λk O _=>O) S J (λb G Q=>(I.2 b G Q).elim) hvx (.inr ⟨hfl,λid l G=>by simp[find]at G⟩);rw[V.vw z]at B;exact⟨x,A2,s,rfl,y.sub kD,B,Y,Z,r5⟩
def kB{call:AH Bool}{fe:AI Bool}{fuel:Nat}(D:tG P call)(S:oV P fe){f:FuncId}(M:IU P f fr){k:V->Bool}
 (h:qE false P call fe fuel fr us k=true): ∃v,Fn P f us [] v []/\v.cR=true/\k v=true:=by
 unfold qE at h;obtain⟨K,h⟩:=cj h;simp only[abv]at K;rw[CR]at h;obtain⟨I,c,R,G,A,hnt,Q,w⟩:=M;obtain⟨e,l,b,y,O,Y⟩:=QV (P:=P) D S A w h
 have j:∀F,(∃I,P.funcs[f]? =some I/\I.body=some F)->Run P fr.n F (nT 0 us .nil) [] 4 e l b y:=by
  rintro F ⟨fn',r,N⟩;rw[R]at r;simp only[ii]at r;subst r;rw[G]at N;simp only[ii]at N;subst N;exact Y
 have n:uP e->Cr false l b fr.res (λo=>uO (Wq false b) o λZ=>k (aR Z))=true-> ∃v,Fn P f us [] v []/\v.cR=true/\k v=true:=by
  intro H J;obtain⟨o,B,g⟩:=BB Q J;obtain⟨Z,U,a⟩:=qd (λx k h=>PT h) g;refine⟨aR Z,SA ⟨I,c,R,G,A,hnt,Q,w⟩ K H j (λfn' r=>?_) U,?_,a⟩
  . rw[R]at r;simp only[ii]at r;subst r;exact B
  . refine wU ?_;rw[yt];intro u L;obtain⟨s,d,hke⟩:=aa3 L;obtain⟨v,_,z⟩:=eZ U s u (by rw[<-hke];simp[d]);exact jw z
 cases e with
 |normal=>exact n (.inl rfl) O
 |ret=>exact n (.inr rfl) O
 |_=>simp at O
def xz{call:AH Bool}{a:AI Bool}{fuel:Nat}(D:tG P call)(S:oV P a){f:FuncId}(L:IU P f fr){hp:HS}{K:V->HS->Nat->Bool}
 (h:HK false P call a fuel fr us hp ctr K=true): ∃v hp' U,kU P f us hp ctr v hp' U/\K v hp' U=true:=by
 unfold HK at h;obtain⟨d,h⟩:=cj h;simp only[abv]at d;rw[CR]at h;obtain⟨I,c,R,G,A,b,Q,w⟩:=L;obtain⟨e,s,hp',U,O,Y⟩:=QV (P:=P) D S A w h
 have j:∀F,(∃I,P.funcs[f]? =some I/\I.body=some F)->Run P fr.n F (nT 0 us .nil) hp ctr e s hp' U:=by
  rintro F ⟨l,r,N⟩;rw[R]at r;simp only[ii]at r;subst r;rw[G]at N;simp only[ii]at N;subst N;exact Y
 have n:uP e->Cr false s hp' fr.res (λo=>K (aR o) hp' U)=true-> ∃v hp' U,kU P f us hp ctr v hp' U/\K v hp' U=true:=by
  intro H J;obtain⟨o,B,g⟩:=BB Q J;refine⟨aR o,hp',U,Dz ⟨I,c,R,G,A,b,Q,w⟩ d H j (λl r=>?_),g⟩;rw[R]at r;simp only[ii]at r;subst r;exact B
 cases e with
 |normal=>exact n (.inl rfl) O
 |ret=>exact n (.inr rfl) O
 |_=>simp at O
def QU(P:Program)(EB:Nat->Option Gk):Prop:= ∀f s,EB f=some s->IU P f s
def Gh(P:Program)(On:Nat->Lw->Option V):Prop:= ∀f A v,On f A=some v->Fn P f A [] v []/\v.cR=true
def Al{EB:Nat->Option Gk}{On:Nat->Lw->Option V}{fuel:Nat}(n:QU P EB)(l:Gh P On):∀d,tG P (cQ false P EB On fuel d).1/\oV P (cQ false P EB On fuel d).2
 |0=>⟨λf A F e K h=>by simp[cQ]at h,λf A F e K h=>by simp[cQ]at h⟩
 |d+1=>by
  obtain⟨w,o⟩:=Al n l (fuel:=fuel) d;refine⟨λf A F e K h=>?_,λf A F e K h=>?_⟩
  . simp only[cQ]at h;split at h
    . rename_i s j;have I:=n f s j
      cases hi:s.inl with
      |true=>
       rw[hi]at h;exact xz w o I h
      |false=>
       rw[hi]at h;simp only[ki]at h
       cases hT:wm A with
       |true=>
        rw[hT]at h;simp only at h;split at h
        . rename_i v z;rw[fu]at h;obtain⟨O,Y⟩:=l f A v z;exact⟨v,F,e+4,tx (gH Y hT O),h⟩
        . obtain⟨v,O,Y,B⟩:=kB w o I h;rw[fu]at B;exact⟨v,F,e+4,tx (gH Y hT O),B⟩
       |false=>
        rw[hT]at h;simp only at h
        cases hfl:(s.flat&& (bB (bM F) A).isSome)with
        |true=>
         rw[hfl]at h;simp only at h;obtain⟨Z,a,h⟩:=qd (λx k h=>PT h) h;split at h
         . rename_i v z;have b:v.flat=true/\(tR (e+4) λc=>K v F c)=true:=cj h;rw[fu]at b;obtain⟨O,Y⟩:=l f Z v z;exact⟨v,F,e+4,ri Y a b.1 O,b.2⟩
         . obtain⟨v,O,Y,B⟩:=kB w o I h;have b:v.flat=true/\(tR (e+4) λc=>K v F c)=true:=cj B;rw[fu]at b;exact⟨v,F,e+4,ri Y a b.1 O,b.2⟩
        |false=>
         rw[hfl]at h;exact xz w o I h
    . simp at h
  . simp only[cQ]at h;split at h
    . rename_i s j;have I:=n f s j
      cases hT:wm A with
      |true=>
       rw[hT]at h;simp only[ki]at h;split at h
       . rename_i v z;obtain⟨O,Y⟩:=l f A v z;exact⟨v,F,gH Y hT O,h⟩
       . obtain⟨v,O,Y,B⟩:=kB w o I h;exact⟨v,F,gH Y hT O,B⟩
      |false=>
       rw[hT]at h;simp only[ki]at h;split at h
       . rename_i Z a;split at h
         . rename_i v z;have b:v.flat=true/\K v F=true:=cj h;obtain⟨O,Y⟩:=l f Z v z;exact⟨v,F,Ax Y a b.1 O,b.2⟩
         . obtain⟨v,O,Y,B⟩:=kB w o I h;have b:v.flat=true/\K v F=true:=cj B;exact⟨v,F,Ax Y a b.1 O,b.2⟩
       . simp at h
    . simp at h
def W9:Value->Value->Bool
 | .int k a,.int P b=>Nat.beq (MK k) (MK P)&&eqI a b| .bool a,.bool b=>a==b| .string a,.string b=>a.data.toList==b.data.toList| .slice none 0 0,.slice none 0 0=>true|_,_=>false
def W8{a b:Value}(h:W9 a b=true):a=b:=by
 unfold W9 at h;split at h
 . simp only[LD,Xb,beq_iff_eq]at h;rw[O5 h.1,h.2]
 . simp only[beq_iff_eq]at h;rw[h]
 . rename_i a b;simp only[beq_iff_eq]at h;congr 1;cases a;cases b;congr 1;exact Array.toList_inj.1 h
 . rfl
 . simp at h
mutual
def eqT:T->T->Bool
 | .val a,.val b=>W9 a b| .aO N o,.aO D Y=>Nat.beq N D&&FY o Y|_,_=>false
def SR:Lt->Lt->Bool
 | [],[]=>true|a::r,b::s=>eqT a b&&SR r s|_,_=>false
def FY:Lz->Lz->Bool
 | [],[]=>true|a::r,b::s=>SR a b&&FY r s|_,_=>false
end
mutual
def Xa:∀ {a b:T},eqT a b=true->a=b
 | .val a,.val b,h=>by simp only[eqT]at h;rw[W8 h]
 | .aO N o,.aO D Y,h=>by
   simp only[eqT,LD,adr]at h;rw[h.1,K3 h.2]
 | .val _,.aO ..,h=>by simp[eqT]at h
 | .aO ..,.val _,h=>by simp[eqT]at h
def P3:∀ {a b:Lt},SR a b=true->a=b
 | [],[],_=>rfl
 |a::r,b::s,h=>by
  simp only[SR,LD]at h;rw[Xa h.1,P3 h.2]
 | [],_::_,h=>by simp[SR]at h
 |_::_,[],h=>by simp[SR]at h
def K3:∀ {a b:Lz},FY a b=true->a=b
 | [],[],_=>rfl
 |a::r,b::s,h=>by
  simp only[FY,LD]at h;rw[P3 h.1,K3 h.2]
 | [],_::_,h=>by simp[FY]at h
 |_::_,[],h=>by simp[FY]at h
end
def eqC:C->C->Bool
 | .t a,.t b=>eqT a b|_,_=>false
def SU:Lc->Lc->Bool
 | [],[]=>true|a::r,b::s=>eqC a b&&SU r s|_,_=>false
def eqW:W->W->Bool
 | .one a,.one b=>eqC a b| .agg a,.agg b=>SU a b|_,_=>false
def K0:Lw->Lw->Bool
 | [],[]=>true|a::r,b::s=>eqW a b&&K0 r s|_,_=>false
def eqV:V->V->Bool
 | .w a,.w b=>eqW a b| .fB a,.fB b=>K0 a b|_,_=>false
def Xc{a b:C}(h:eqC a b=true):a=b:=by
 cases a<;>cases b<;>simp[eqC]at h
 rw[Xa h]
def P4:∀ {a b:Lc},SU a b=true->a=b
 | [],[],_=>rfl
 |a::r,b::s,h=>by
  simp only[SU,LD]at h;rw[Xc h.1,P4 h.2]
 | [],_::_,h=>by simp[SU]at h
 |_::_,[],h=>by simp[SU]at h
def W7{a b:W}(h:eqW a b=true):a=b:=by
 cases a<;>cases b<;>simp[eqW]at h
 . rw[Xc h]
 . rw[P4 h]
def Ih:∀ {a b:Lw},K0 a b=true->a=b
 | [],[],_=>rfl
 |a::r,b::s,h=>by
  simp only[K0,LD]at h;rw[W7 h.1,Ih h.2]
 | [],_::_,h=>by simp[K0]at h
 |_::_,[],h=>by simp[K0]at h
def asE{a b:V}(h:eqV a b=true):a=b:=by
 cases a<;>cases b<;>simp[eqV]at h
 . rw[W7 h]
 . rw[Ih h]
def aeK{EB:Nat->Option Gk}{On:Nat->Lw->Option V}{fuel d:Nat}(n:QU P EB)(l:Gh P On){f:FuncId}{fr:Gk}(j:EB f=some fr){us:Lw}{v:V}
 (h:qE false P (cQ false P EB On fuel d).1 (cQ false P EB On fuel d).2 fuel fr us (λS=>eqV S v)=true):Fn P f us [] v []/\v.cR=true:=by
 obtain⟨O,Y⟩:=Al n l (fuel:=fuel) d;obtain⟨S,B,g,U⟩:=kB O Y (n f fr j) h;have:=asE U;subst this;exact⟨B,g⟩
end Go.aW
namespace Go.aW
open Go
variable{P:Program}{M A:agt}{ρ:Env}{F:agt}{st:St}{a:Act}{w:World}
variable{ctr id:Nat}{e:Exit}
def qA.Y8{ops:Array Oper}{i:Nat}{K:St->Nat->Prop}(h:qA P ops i K st ctr): ∃st' c',K st' c'/\qA P ops i (λs c=>s=st'/\c=c') st ctr:=by
 unfold qA at h⊢;split at h
 . exact⟨st,ctr,h,⟨rfl,rfl⟩⟩
 . obtain⟨S,h⟩:=h;split at h
   . exact h.elim
   . rename_i I;exact⟨_,_,h,S,by simp only[I];exact⟨trivial,trivial⟩⟩
   . rename_i I;rcases h with h|h
     . obtain⟨g,A,D,H,v,n,c',O,Y⟩:=h;exact⟨_,_,Y,S,by simp only[I];refine .inl ⟨g,A,D,H,v,n,c',O,?_⟩;first|trivial|exact⟨rfl,rfl⟩|exact⟨trivial,trivial⟩⟩
     . obtain⟨v,n,O,Y⟩:=h;exact⟨_,_,Y,S,by simp only[I];refine .inr ⟨v,n,O,?_⟩;first|trivial|exact⟨rfl,rfl⟩|exact⟨trivial,trivial⟩⟩
def XT.toWp{ops:Array Oper}{o:Oper}{i n:Nat}{x:Ro}{g:Option (Nat×Bool)}{tm:TS}{hp:HS}{K:TS->HS->Nat->Prop}
 (I:ops[i]? =some o) (hx:bL P o=some x) (Y:kS ops o g) (h:XT P n ⟨o.dst,g,x⟩ tm hp ctr K):
 ∃tm',(∀t,find tm' t=find tm t)/\qA P ops i (sK n K) ⟨n,tm',hp⟩ ctr:=by
 unfold XT at h;split at h
 . exact h.elim
 . rename_i S;simp only at S
   have U:∀ {tm':TS},(∀t,find tm' t=find tm t)->bH ops o tm'=some false->K (eJ tm' o.dst (.fB [])) hp ctr-> ∃tm',(∀t,find tm' t=find tm t)/\qA P ops i (sK n K) ⟨n,tm',hp⟩ ctr:=by
    intro tm' H L J;refine⟨tm',H,?_⟩;unfold qA;simp only[I];refine⟨S,?_⟩;simp only[L,iP];exact⟨rfl,J⟩
   have a:∀ {tm':TS},(∀t,find tm' t=find tm t)->bH ops o tm'=some true->Bu P n ⟨o.dst,g,x⟩ tm' hp ctr K-> ∃tm',(∀t,find tm' t=find tm t)/\qA P ops i (sK n K) ⟨n,tm',hp⟩ ctr:=by
    intro tm' H L y;exact⟨tm',H,Bu.wpOp (st:=⟨n,tm',hp⟩) I hx S L y⟩
   rcases Y with⟨N,rfl⟩|⟨j,r,d,N,Q,rfl⟩
   . simp only at h;exact a (λ_=>rfl) (by simp[bH,N]) h
   . have l:∀ {tm':TS} {b:Bool},find tm' d=some (bV b)->bH ops o tm'=some (b==r):=by
      intro tm' b R;simp only[bH,N,Q,R]
     simp only at h;split at h
     . rename_i b R
       have lit:∀ {c:Bool},b=c-> ∀t,find ((d,bV c)::tm) t=find tm t:=by
        intro c G t;subst G;simp only[aF];split
        . rename_i e;subst e;exact R.symm
        . rfl
       split at h
       . rcases mZ h with⟨G,h⟩|⟨G,h⟩
         . exact a (lit G) lA h
         . exact U (lit G) jP h
       . rcases mZ h with⟨G,h⟩|⟨G,h⟩
         . exact U (lit G) lA h
         . exact a (lit G) jP h
     . rename_i R;exact U (λ_=>rfl) (by simp only[bH,N,Q,R]) h
     . exact h.elim
def wA{K:TS->HS->Nat->Prop}{Q:Exit->TS->HS->Nat->Prop}(h:e≠ .normal):dP K Q e=Q e:=by
 cases e<;>first|rfl|exact absurd rfl h
def Jm{K:St->Nat->Prop}{Q:Exit->St->Nat->Prop}(h:e≠ .normal):Ue K Q e=Q e:=by
 cases e<;>first|rfl|exact absurd rfl h
def EZ{Q:Exit->TS->HS->Nat->Prop}(h:∀i,e≠ .exit i):yF id Q e=Q e:=by
 cases e<;>first|rfl|exact absurd rfl (h _)
def Gb{Q:Exit->St->Nat->Prop}(h:∀i,e≠ .exit i):tA id Q e=Q e:=by
 cases e<;>first|rfl|exact absurd rfl (h _)
def Is(st':St)(c':Nat):St->Nat->Prop:=λs c=>s=st'/\c=c'
def lP.Y8{ops:Array Oper}{n:Nat}{K:TS->HS->Nat->Prop}:∀ {l:List Oper} {rs:List oc} {k:Nat} {tm:TS} {hp:HS} {ctr:Nat},
 (∀j,ops[k+j]? =l[j]?)->bj P ops l=some rs->lP P n rs tm hp ctr K->
 ∃st' c',sK n K st' c'/\ ∀ (M A:agt) (ρ:Env) (a:Act) (w:World) (Q:Exit->Act->World->Prop),Rel M A ρ (bJ ctr) ⟨n,tm,hp⟩ a w->(∀r w',Post M A ρ w (Is st' c') r w'->Q .normal r w')->
  wpOps P ops Q (List.range' k l.length) a w
 | [],rs,k,tm,hp,ctr,U,L,h=>by
   simp only[bj,ii]at L;subst L;exact⟨⟨n,tm,hp⟩,ctr,⟨rfl,h⟩,λM A ρ a w Q J d=>d _ _ (Post.here J ⟨rfl,rfl⟩)⟩
 |o::l,rs,k,tm,hp,ctr,U,L,h=>by
  simp only[bj]at L;split at L
  . rename_i x l' N hl';have I:ops[k]? =some o:=age
    obtain⟨g,rfl,c⟩:=nU L;simp only[lP]at h;obtain⟨tm',H,y⟩:=XT.toWp (ops:=ops) I N c h;obtain⟨st1,e,⟨rV,hK1⟩,I6⟩:=qA.Y8 y;obtain⟨n1,lR,hp1⟩:=st1;simp only at rV hK1;subst rV;obtain⟨st2,S,hK2,hw2⟩:=lP.Y8 (k:=k+1) (λj=>by have:=U (j+1);rw[show k+1+j=k+(j+1) by omega,this];simp) hl' hK1;refine⟨st2,S,hK2,λM A ρ a w Q J d=>?_⟩;rw[aaa,ae5,wpOps_cons];have R:Rel M A ρ (bJ ctr) ⟨n1,tm',hp⟩ a w:=J.forget rfl (λt v z=>by rw[<-H t];exact z) (λ_ _ G=>G);refine qA.sound I6 R λr w' b=>?_;obtain⟨st',c',D,Z,⟨rfl,rfl⟩,Y,B,s,F⟩:=b;exact hw2 M D Z r w' Q Y λO w2 hp2=>d _ _ (hp2.trans B s F)
  . simp at L
def X.Y8{n:Nat}:∀ {c:Code} {r:Rc},aT P c=some r-> ∀ {Q:Exit->TS->HS->Nat->Prop} {tm:TS} {hp:HS} {ctr:Nat},X P n r Q tm hp ctr->
 ∃e st' c',sK n (Q e) st' c'/\Wp P c (λF s c=>F=e/\Is st' c' s c) ⟨n,tm,hp⟩ ctr:=by
 intro c
 induction c with
 |skip=>
  intro r J Q tm hp ctr h;simp only[aT,ii]at J;subst J;exact⟨.normal,⟨n,tm,hp⟩,ctr,⟨rfl,h⟩,Wp.skip ⟨rfl,rfl,rfl⟩⟩
 |ret=>
  intro r J Q tm hp ctr h;simp only[aT,ii]at J;subst J;exact⟨.ret,⟨n,tm,hp⟩,ctr,⟨rfl,h⟩,Wp.ret ⟨rfl,rfl,rfl⟩⟩
 |exit id=>
  intro r J Q tm hp ctr h;simp only[aT,ii]at J;subst J;exact⟨.exit id,⟨n,tm,hp⟩,ctr,⟨rfl,h⟩,Wp.exit ⟨rfl,rfl,rfl⟩⟩
 |seq x y VJ VI=>
  intro r J Q tm hp ctr h;simp only[aT]at J;split at J
  . rename_i rx ry N B;simp only[ii]at J;subst J;simp only[X]at h;obtain⟨g,st1,c1,⟨rV,O⟩,w1⟩:=VJ N h;obtain⟨n1,lR,hp1⟩:=st1;simp only at rV O;subst rV
    by_cases ou:g= .normal
    . subst ou;obtain⟨F,st2,c2,Y,w2⟩:=VI B O;refine⟨F,st2,c2,Y,Wp.seq (w1.mono ?_)⟩;rintro e s c ⟨rfl,rfl,rfl⟩;exact w2
    . rw[wA ou]at O;refine⟨g,⟨n1,lR,hp1⟩,c1,⟨rfl,O⟩,Wp.seq (w1.mono ?_)⟩;rintro e s c ⟨rfl,rfl,rfl⟩;rw[Jm ou];exact⟨rfl,rfl,rfl⟩
  . simp at J
 |cond c x y VJ VI=>
  intro r J Q tm hp ctr h;simp only[aT]at J;split at J
  . rename_i rx ry N B;simp only[ii]at J;subst J;simp only[X]at h;split at h
    . rename_i b G;have hb':((⟨n,tm,hp⟩:St).get c).jT =some b:=by rw[<-bW];exact G
      rcases mZ h with⟨rfl,h⟩|⟨rfl,h⟩
      . obtain⟨e,s,c',O,Y⟩:=VJ N h;exact⟨e,s,c',O,Wp.cond hb' Y⟩
      . obtain⟨e,s,c',O,Y⟩:=VI B h;exact⟨e,s,c',O,Wp.cond hb' Y⟩
    . exact h.elim
  . simp at J
 |block id b ih=>
  intro r J Q tm hp ctr h;simp only[aT]at J;split at J
  . rename_i rb G;simp only[ii]at J;subst J;simp only[X]at h;obtain⟨g,st1,c1,⟨rV,O⟩,w1⟩:=ih G h
    cases g with
    |exit id'=>
     simp only[yF]at O;split at O
     . rename_i hid;refine⟨_,_,_,⟨rV,O⟩,Wp.block (w1.mono ?_)⟩;rintro e s c ⟨rfl,rfl,rfl⟩;simp only[tA,hid,if_true];exact⟨trivial,rfl,rfl⟩
     . rename_i hid;refine⟨_,_,_,⟨rV,O⟩,Wp.block (w1.mono ?_)⟩;rintro e s c ⟨rfl,rfl,rfl⟩;simp only[tA,hid,if_false];exact⟨trivial,rfl,rfl⟩
    |_=>
     rw[EZ ak]at O;refine⟨_,st1,c1,⟨rV,O⟩,Wp.block (w1.mono ?_)⟩;rintro e s c ⟨rfl,rfl,rfl⟩;rw[Gb ak];exact⟨rfl,rfl,rfl⟩
  . simp at J
 |loop b ih=>
  intro r J Q tm hp ctr h;simp only[aT]at J;split at J
  . rename_i rb G;simp only[ii]at J;subst J;simp only[X]at h;obtain⟨I,aKd,CU⟩:=h;obtain⟨vB,oE,c0,YU,m,hI⟩:=aKd.get
    have key:∀ (m:Nat) (tm:TS) (hp:HS) (c:Nat),I m tm hp c-> ∃e st' c',sK n (Q e) st' c'/\ ∀ (M A:agt) (ρ:Env) (a:Act) (w:World) (K:Frame) (kk:List _) (cs:List _),Rel M A ρ (bJ c) ⟨n,tm,hp⟩ a w->
     ∃a' w',Post M A ρ w (Is st' c') a' w'/\Arrives P (lone (K.at a (.code b:: .inLoop b::kk)) cs w) K kk cs e a' w':=by
     intro m
     induction m using Nat.strongRecOn with
     |_ m ihm=>
      intro tm hp c hI;obtain⟨g,st1,c1,⟨rV,O⟩,w1⟩:=ih G (CU m tm hp c hI);obtain⟨n1,lR,hp1⟩:=st1;simp only at rV O;subst rV
      by_cases ou:g= .normal
      . subst ou;obtain⟨tm3,YZ,c3,hw3,m',hm',hI'⟩:=bA.get O;obtain⟨F,st2,c2,Y,rF⟩:=ihm m' hm' _ _ _ hI';refine⟨F,st2,c2,Y,λM A ρ a w K kk cs J=>?_⟩
        obtain⟨e,a1,Gv,⟨rfl,st',c',R,ρ',⟨rfl,rfl⟩,Z,r3,r4,r5⟩,iZ⟩:=(by
         obtain⟨e,a1,Gv,hp1,iZ⟩:=w1 M A ρ a w J K (.inLoop b::kk) cs;obtain⟨st',c',R,ρ',⟨H,S⟩,r⟩:=hp1;exact⟨e,a1,Gv,⟨H,st',c',R,ρ',S,r⟩,iZ⟩: ∃e a1 Gv,(e=Exit.normal/\ ∃st' c' R ρ',Is ⟨n1,lR,hp1⟩ c1 st' c'/\Rel M R ρ' (bJ c') st' a1 Gv/\dA M w Gv/\jm ρ ρ'/\fZ M A R w)/\Arrives P (lone (K.at a (.code b:: .inLoop b::kk)) cs w) K (.inLoop b::kk) cs e a1 Gv)
        obtain⟨A2,ρ2,AX,M0,zk⟩:=hw3 _ _ _ _ _ _ Z;obtain⟨a2,w2,hp2,xF⟩:=rF M A2 ρ2 a1 Gv K kk cs AX;exact⟨a2,w2,hp2.trans r3 (r4.trans M0) (r5.trans zk r3.size),.of_steps (Steps.trans iZ (.one step_inLoop)) xF⟩
      . rw[wA ou]at O;refine⟨g,⟨n1,lR,hp1⟩,c1,⟨rfl,O⟩,λM A ρ a w K kk cs J=>?_⟩;obtain⟨e,a1,Gv,aqE,iZ⟩:=w1 M A ρ a w J K (.inLoop b::kk) cs;obtain⟨st',c',R,ρ',⟨rfl,S⟩,r⟩:=aqE;refine⟨a1,Gv,⟨st',c',R,ρ',S,r⟩,?_⟩
        cases e with
        |normal=>exact absurd rfl ou
        |_=>exact .pass (x:= .inLoop b) rfl (λ_ _=> .inl ak) iZ
    obtain⟨e,st',c',O,Y⟩:=key m _ _ _ hI;refine⟨e,st',c',O,Wp.L3 (st:=⟨n,tm,hp⟩) YU ?_⟩;intro M A ρ a w J K kk cs;obtain⟨a',w',hp',iZ⟩:=Y M A ρ a w K kk cs J;obtain⟨s1,s2,s3,s4,s5,s6⟩:=hp';exact⟨e,a',w',⟨s1,s2,s3,s4,⟨rfl,s5⟩,s6⟩,.of_steps (.one step_loop) iZ⟩
  . simp at J
 |region id ops d=>
  intro r J Q tm hp ctr h
  cases d with
  |true=>
   simp only[aT]at J;split at J
   . rename_i l U;split at J
     . rename_i D;simp only[LD]at D;simp only[ii]at J;subst J;simp only[X]at h;obtain⟨tmT,hpT,v,fs,⟨q0,q1⟩,_,q3,q4,q5⟩:=yj.trace (P:=P) (ops:=ops) (n:=n) (base:=ctr) (k:=0) (λj=>by simp) U rfl bc;simp only[aas]at q1 q5;refine⟨.normal,⟨n,tmT ops.size,hpT ops.size⟩,ctr+4 * ops.size,⟨rfl,by simpa using q1⟩,?_⟩;intro M A ρ a w cP;have Kp:Rel M A ρ (bJ ctr) ⟨n,tmT 0,hpT 0⟩ a w:=cP.forget rfl (λt u L=>by rw[<-q3 t];exact L) (λk b G=>by rw[q4]at G;exact G);refine Dm D.1 (λi o z=>q5 i o agm) (λi o z e H=>?_) q0 Kp ?_
       . have:=mY D.2 i (bP o) (by simp[z]) e H;omega
       . rintro a' w' ⟨st',c',R,ρ',⟨rfl,rfl⟩,Y⟩;exact⟨_,_,R,ρ',⟨rfl,rfl,rfl⟩,Y⟩
     . simp at J
   . simp at J
  |false=>
   simp only[aT]at J;split at J
   . rename_i l U;simp only[ii]at J;subst J;simp only[X]at h;obtain⟨st',c',O,Y⟩:=lP.Y8 (P:=P) (ops:=ops) (k:=0) (l:=ops.toList) (λj=>by simp) U h;refine⟨.normal,st',c',O,λM A ρ a w cP=>wp_region ?_⟩
     have:=Y M A ρ a w (λe a' w'=>Post M A ρ w (λs c=>e= .normal/\Is st' c' s c) a' w') cP (λa' w' hp=>by
      obtain⟨s1,s2,s3,s4,s5,s6⟩:=hp;exact⟨s1,s2,s3,s4,⟨rfl,s5⟩,s6⟩)
     rw[aen];simpa using this
   . simp at J
 |_=>intro r J;simp[aT]at J
def alJ(P:Program)(rs:List ResultVar)(Good:Lw->Prop):Exit->TS->HS->Nat->Prop
 | .normal,d,F,_| .ret,d,F,_=> ∃A Z,bg P F d rs=some A/\bB (bM F) A=some Z/\Good Z|_,_,_,_=>False
section
variable{Tb:Tables}{F F':Array Func}
def Lh:∀n,(Program.mk Tb F).alikeButTags n=(Program.mk Tb F').alikeButTags n
 |0=>by funext t u;rfl
 |n+1=>by
  funext t u;simp only[Program.alikeButTags,Lh n]
def Ld:(Program.mk Tb F).stoodInHeld=(Program.mk Tb F').stoodInHeld:=by
 funext t;have:= @Lh Tb F F';simp only[Program.stoodInHeld,Program.stoodInAs,Program.underlying,Program.underlyingId,Program.depth,this];rfl
def Le:∀n,(Program.mk Tb F).eqGuardType n=(Program.mk Tb F').eqGuardType n
 |0=>by funext t;rfl
 |n+1=>by
  funext t;have:= @Ld Tb F F';simp only[Program.eqGuardType,Le n,Program.underlying]
def anH(P:Program)(t:TypeId):aX P (underlying t)=P.underlying t:=by
 cases h:P.underlying t with
 |some d=>exact bi h
 |none=>
  show aX P (match P.underlying t with|some d=>pure d|none=>stuck "no such type")=none;rw[h];rfl
def agY(t:TypeId):Ai (Program.mk Tb F) t=Ai (Program.mk Tb F') t:=by
 have h:(Program.mk Tb F).underlying t=(Program.mk Tb F').underlying t:=rfl;simp only[Ai,isAgg,aY,anH,h]
 cases(Program.mk Tb F').underlying t with
 |none=>rfl
 |some d=>cases d<;>rfl
def Qx:∀ (fs:List Field) off,pC (Program.mk Tb F) off fs=pC (Program.mk Tb F') off fs
 | [],_=>rfl
 |f::r,off=>by simp only[pC,Qx r,agY (F:=F) (F':=F')]
def F5:∀ (fs:List Field),placesOf (Program.mk Tb F) fs=placesOf (Program.mk Tb F') fs
 | []=>rfl
 |f::r=>by simp only[placesOf,F5 r];rfl
def aEb(H:∀f,enters (Program.mk Tb F) f=enters (Program.mk Tb F') f)(o:Oper):bL (Program.mk Tb F) o=bL (Program.mk Tb F') o:=by
 have O:placesOf (Program.mk Tb F)=placesOf (Program.mk Tb F'):=funext F5;have Y:pC (Program.mk Tb F)=pC (Program.mk Tb F'):=funext λo=>funext λl=>Qx l o;have B:= @Le Tb F F';have g:= @Ld Tb F F'
 have U:wc (Program.mk Tb F)=wc (Program.mk Tb F'):=by
  funext t;simp only[wc,Y,B,g,Program.depth];rfl
 have R:(Program.mk Tb F).underlying=(Program.mk Tb F').underlying:=rfl;have v:j9 (Program.mk Tb F)=j9 (Program.mk Tb F'):=rfl;have d:dc (Program.mk Tb F)=dc (Program.mk Tb F'):=rfl;have y:L9 (Program.mk Tb F)=L9 (Program.mk Tb F'):=rfl;have b:qy (Program.mk Tb F)=qy (Program.mk Tb F'):=rfl;have a:Mz (Program.mk Tb F)=Mz (Program.mk Tb F'):=rfl;have c:enters (Program.mk Tb F)=enters (Program.mk Tb F'):=funext H;simp only[bL,qO,aZ,O,U,R,v,d,y,b,a,c]
def XB(H:∀f,enters (Program.mk Tb F) f=enters (Program.mk Tb F') f)(c:Array Oper):∀l,bj (Program.mk Tb F) c l=bj (Program.mk Tb F') c l
 | []=>rfl
 |o::r=>by simp only[bj,aEb H,XB H c r]
def aK6(H:∀f,enters (Program.mk Tb F) f=enters (Program.mk Tb F') f)(c:Code):aT (Program.mk Tb F) c=aT (Program.mk Tb F') c:=by
 induction c with
 |region a g b=>cases b<;>simp only[aT,XB H]<;>rfl
 |_=>simp only[aT, *]
end
def ajG(b:Bool):Func:={name:= "",origin:= "",params:= #[],resultTypes:= #[],nfree:=0,ntmps:=0,results:= #[],body:=if b then some .skip else none,norace:=false,tmpNames:= #[]}
def Oo:Array Func:=(aBX.foldl (λl i=>l.set i (ajG false)) (List.replicate aIE (ajG true))).toArray
class pG(P:Program)(Tb:outParam Tables):Prop where
 tb:P.toTables=Tb
 ok:∀f,enters P f=enters ⟨Tb,Oo⟩ f
theorem pG.of{P:Program}{Tb:Tables}(h:P.toTables=Tb)(n:Nat)(O:Nat.ble P.funcs.size n=true)(Y:Nat.ble Oo.size n=true)(B:((List.range n).all λf=>enters P f==enters ⟨Tb,Oo⟩ f)=true):pG P Tb:=by
 refine⟨h,λf=>?_⟩
 by_cases R:f < n
 . have:=yt.1 B f (aap.2 R);simpa using this
 . have R:=ae6 R;simp only[enters,aav (aal (abp O) R),aav (aal (abp Y) R)]
def fnI(Tb:Tables)(I:Func):Option (Nat×List ResultVar×Rc):=
 match I.body with
 |some b=>match aT ⟨Tb,Oo⟩ b with
  |some r=>some (I.ntmps,I.results.toList,r)|none=>none
 |none=>none
variable{r:Rc}
def zw{P:Program}{Tb:Tables}[hS:pG P Tb]{I:Func}{n:Nat}{rs:List ResultVar}(h:fnI Tb I=some (n,rs,r)): ∃c,I.body=some c/\aT P c=some r/\I.ntmps=n/\I.results.toList=rs:=by
 obtain⟨z,H⟩:=hS;obtain⟨a,e⟩:=P;subst z;unfold fnI at h;split at h
 . rename_i b G;split at h
   . rename_i q d;simp only[ii,uu]at h;exact⟨b,G,by rw[aK6 H,d,h.2.2],h.1,h.2.1⟩
   . cases h
 . cases h
def aC{Tb:Tables}[pG P Tb]{f:FuncId}{fn:Func}{args:Lw}{n:Nat}{rs:List ResultVar}{Good:Lw->Prop}(R:P.funcs[f]? =some fn)(h:X P n r (alJ P rs Good) (dz 0 args) [] 4)
 (I:fnI Tb fn=some (n,rs,r):=by conv=>lhs;cbv) (U:args.length<=n:=by simp): ∃ts,Fn P f args [] (aR ts) []/\(aR ts).cR=true/\Good ts:=by
 obtain⟨c,G,J,K,gy⟩:=zw (P:=P) I;subst K;subst gy;obtain⟨e,st',c',⟨hn',d⟩,hw⟩:=X.Y8 J h;obtain⟨n',tm',hp'⟩:=st';simp only at hn' d;subst hn'
 have main:∀us ts,uP e->bg P hp' tm' fn.results.toList=some us->bB (bM hp') us=some ts->Good ts-> ∃ts,Fn P f args [] (aR ts) []/\(aR ts).cR=true/\Good ts:=by
  intro Q ts H iG hts S;refine⟨ts,?_,wU ?_,S⟩
  . intro w A ρ o hH hxs;refine calls_of_wp R G ?_;have hl':args.length=o.size:=YT
    have cP:Rel (λb=>pK ρ [] b\/w.heap.size<=b) A ρ (bJ 4) ⟨fn.ntmps,dz 0 args,[]⟩ {tmps:=o++Array.replicate (fn.ntmps - o.size) undef,defers:=[]} w:=by
     refine⟨by simp;omega,rfl,λt v z=>?_,hH.heap,hH.inj,hH.fresh,hH.bound,hH.may,hH.dR⟩;obtain⟨_,u,L,rfl⟩:=eS _ _ _ _ z;simp only[ad4]at L;have ht:t < o.size:=by rw[<-hl'];exact(jl.1 L).1
     have yA:o.toList[t]? =some o[t]:=by simp[ht]
     have:=hxs.2 t u _ L yA;have e:(o++Array.replicate (fn.ntmps - o.size) undef).getD t undef=o[t]:=V1
     rw[e];exact this
    refine wp_mono (hw _ A ρ _ w cP) ?_;rintro g a' w' ⟨st2,c2,D,ρ',⟨rfl,rfl,rfl⟩,cU,eU,cI,MY⟩;have mM:=zm hH.bound MY;obtain⟨F,hvs,M⟩:=eA cU iG
    have l:(fn.results.mapM λ(r:ResultVar)=>match r with
     | .tmp t=>(pure (a'.tmps.getD t undef):Sem Value)
     | .cell b t=>do loadVar t (<-asAddr (a'.tmps.getD b undef))).run P w'= .ok F.toArray w':=by
     rw[ab1];simp only[Sem.run_map];exact(congrArg (λr:Result (List Value)=>Result.andThen r λa w'=>Result.ok a.toArray w') hvs).trans rfl
    have hrun:(results fn a'.tmps).run P w'= .ok (if h:F.toArray.size=1 then F.toArray[0]else .tuple F.toArray) w':=by
     show(Bind.bind (fn.results.mapM λ(r:ResultVar)=>match r with
      | .tmp t=>(pure (a'.tmps.getD t undef):Sem Value)
      | .cell b t=>do loadVar t (<-asAddr (a'.tmps.getD b undef))) λQ=>Pure.pure (if h:Q.size=1 then Q[0]else .tuple Q)).run P w'=_
     rw[Sem.run_bind,l];rfl
    have hB:∀id blk b,find hp' id=some blk->ρ' id=some (.gD b)->¬A b:=by
     intro id blk b R hρ hA;have hM:=(Rel.own cU R hρ).1;rcases hM with⟨id',gU,qj,_⟩|hM
     . simp[find]at qj
     . have:=hH.bound b hA;omega
    have hlen:=iR hts
    have one:∀ (k:Nat) (u:W) (y:Value),ts[k]? =some u->(∀v,Q[k]? =some v->RW w' D ρ' v y)->RW w' A ρ u y:=by
     intro k u y L z;obtain⟨v,kV,Ku⟩:=eZ hts k u L;exact ja cU (λb G=>mM.1 b G) hB Ku (z v kV) ρ
    have fin:a'.defers=[]/\ ∃v,(results fn a'.tmps).run P w'= .ok v w'/\ ∃x D ρ' F',Ending.returned v= .returned x/\RV w' D ρ' (aR ts) x/\HR (λb=>pK ρ [] b\/w.heap.size<=b) D ρ' F' [] w'/\
     dA (λb=>pK ρ [] b\/w.heap.size<=b) w w'/\jm ρ ρ'/\bY A D w:=by
     refine⟨cU.defers,_,hrun,_,A,ρ,bJ 4,rfl,?_,⟨rfl,rfl,λt v z=>by simp[find]at z,λid blk G=>by simp[find]at G,λid id' b j q G=>by simp[find]at G,hH.fresh,λb G=>aar (hH.bound b G) eU.size,λb G=> .inr (aal eU.size G),hH.dR.LN eU (λ_ _ h=>h)⟩,eU,jm.refl _,bY.refl _ _⟩
     match Q,F,ts,M,hlen,one with
     | [],[],[],_,_,_=>exact⟨#[],ak,rfl,ak⟩
     | [u],[v],[t],M,_,one=>exact one 0 t v rfl (λv' kV=>by simp only[yq,ii]at kV;subst kV;exact M.2 0 u v rfl rfl)
     |u::u2::r,v::v2::s,t::t2::q,M,hlen,one=>
      have hne:¬ (v::v2::s).toArray.size=1:=ak
      simp only[hne,dite_false];refine⟨_,rfl,?_,λk x y N Z=>one k x y N (λv' kV=>M.2 k v' y kV PO)⟩;have:=M.1;simp at this hlen⊢;omega
     | [],_::_,_,M,_,_=>exact absurd M.1 ak
     |_::_,[],_,M,_,_=>exact absurd M.1 ak
     | [_],_::_::_,_,M,_,_=>exact absurd M.1 ak
     |_::_::_,[_],_,M,_,_=>exact absurd M.1 ak
     | [],[],_::_,_,hlen,_=>simp at hlen
     | [_],[_],[],_,hlen,_=>simp at hlen
     | [_],[_],_::_::_,_,hlen,_=>simp at hlen
     |_::_::_,_::_::_,[],_,hlen,_=>simp at hlen
     |_::_::_,_::_::_,[_],_,hlen,_=>simp at hlen
    rcases H with rfl|rfl
    . exact fin
    . exact fin
  . rw[yt];intro u L;obtain⟨k',hk',hke⟩:=aa3 L;obtain⟨v,_,Ku⟩:=eZ hts k' u (by rw[<-hke];simp[hk']);exact jw Ku
 cases e with
 |normal=>obtain⟨us,ts,O,Y,B⟩:=d;exact main us ts (.inl rfl) O Y B
 |ret=>obtain⟨us,ts,O,Y,B⟩:=d;exact main us ts (.inr rfl) O Y B
 |_=>exact d.elim
end Go.aW
namespace Go.aW.Cd
open Go Go.Proofs
instance aH0:pG Tryz.prog Tryz.progTables:=pG.of rfl 400 ag ag ag
abbrev t(n:Nat):eI:= .t n
abbrev k(n:Int):eI:= .c (iV .i64 n)
abbrev kb(b:Bool):eI:= .c (bV b)
abbrev p(d:Nat)(r:Ro):oc:=⟨some d,none,r⟩
abbrev q(r:Ro):oc:=⟨none,none,r⟩
abbrev i(n:Int):T:= .val (.int .i64 n)
abbrev u(n:Int):T:= .val (.int .u32 n)
abbrev bo(b:Bool):T:= .val (.bool b)
abbrev nl:T:= .val (.slice none 0 0)
abbrev Bi(d:Nat)(o:BinOp)(a:Nat)(n:Int):oc:=p d (.bin o (t a) (k n))
abbrev Pt(d a b:Nat):oc:=p d (.pick (t a) (kb true) (t b))
abbrev Pf(d a b:Nat):oc:=p d (.pick (t a) (t b) (kb false))
abbrev zb:C:= .t (.val (.bool false))
variable{P:Program}
def YG(P:Program):List (Nat×Gk)->Prop
 | []=>True|(f,s)::r=>IU P f s/\YG P r
def KH:∀ {l:List (Nat×Gk)},YG P l->QU P (find l)
 | [],_,f,s,h=>by simp[find]at h
 |(g,c)::r,U,f,s,h=>by
  rw[aF]at h;split at h
  . rename_i e;subst e;simp only[ii]at h;subst h;exact U.1
  . exact KH U.2 f s h
def sw:List (Nat×Lw×V)->Nat->Lw->Option V
 | [],_,_=>none|(g,n,v)::r,f,A=>ki (Nat.beq g f&&K0 n A) (some v) (sw r f A)
def aaD:Gh P (sw []):=λf A v h=>by simp[sw]at h
def B9{l:List (Nat×Lw×V)}{g:Nat}{n:Lw}{v:V}(h:Gh P (sw l))(H:Fn P g n [] v []/\v.cR=true):Gh P (sw ((g,n,v)::l)):=by
 intro f A S z;simp only[sw]at z
 cases hc:(Nat.beq g f&&K0 n A)with
 |true=>
  rw[hc]at z;simp only[ki,ii]at z;subst z;simp only[LD,adr]at hc;obtain⟨rfl,Y⟩:=hc;rw[<-Ih Y];exact H
 |false=>
  rw[hc]at z;exact h f A S z
end Go.aW.Cd
namespace Go.aW
open Go
variable{P:Program}{M A:agt}{ρ:Env}{F:agt}{st:St}{a:Act}{w:World}
def HB.aM{M2:agt}{ρ2:Env}{f:Nat->Option Nat}{id k:Nat}{blk:bE}(h:HB w M A ρ id blk)(d:∀id k l,f id=some k->ρ id=some l->ρ2 k=some l)
 (Z:∀l,ρ id=some l->ρ2 k=some l) (x:∀b,ρ id=some (.gD b)->M b->M2 b):HB w M2 A ρ2 k (blk.aM f):=by
 cases blk with
 |row N o=>
  obtain⟨q1,q2⟩:=h;refine⟨λe H=>?_,?_⟩
  . simp only[aad]at H;obtain⟨F,he',rfl⟩:=H;simpa using q1 F he'
  . rcases q2 with⟨b,c,e,s,v,z,S,k5,k6⟩|⟨s,v⟩
    . refine .inl ⟨b,c,e,Z _ s,x b s v,z,S,C1,λi r j q I Q=>?_⟩;simp only[yu,jU]at I;obtain⟨LO,Ky,rfl⟩:=I;simp only[yu,jU]at Q;obtain⟨q',Kq,rfl⟩:=Q;obtain⟨y,G,R,O⟩:=k6 i LO j q' Ky Kq;exact⟨y,G,R.aM d,O⟩
    . exact .inr ⟨Z _ s,by rw[v];rfl⟩
 |mp J K=>
  obtain⟨b,D,s,v,z,S,k5,k6⟩:=h;refine⟨b,D,Z _ s,x b s v,z,S,C1,λi k c n I=>?_⟩;simp only[yu,jU]at I;obtain⟨⟨P,L,n'⟩,a,H⟩:=I;simp only[uu]at H;obtain⟨rfl,rfl,rfl⟩:=H;obtain⟨e,O,Y,B,g,U⟩:=k6 i P L n' a;exact⟨e,O,Y,B,g.aM d,U.aM⟩
def HB.some{id:Nat}{blk:bE}(h:HB w M A ρ id blk): ∃l,ρ id=some l:=by
 cases blk with
 |row N o=>rcases h.2 with⟨b,c,e,s,_⟩|⟨s,_⟩<;>exact⟨_,s⟩
 |mp B Y=>obtain⟨b,d,s,_⟩:=h;exact⟨_,s⟩
def bI:List Nat->Nat->Option Nat
 | [],_=>none
 |x::r,id=>if x=id then some 0 else(bI r id).map (· +1)
def fJ:∀ {ids:List Nat} {id k:Nat},bI ids id=some k->ids[k]? =some id
 | [],id,k,h=>by simp[bI]at h
 |x::r,id,k,h=>by
  simp only[bI]at h;split at h
  . rename_i e;simp only[ii]at h;subst h;subst e;rfl
  . simp only[jU]at h;obtain⟨P,N,rfl⟩:=h;simpa using fJ N
def lJ:∀ {ids:List Nat} {id:Nat},bI ids id=none-> ∀k:Nat,ids[k]? ≠some id
 | [],id,_,k=>ak
 |x::r,id,h,k=>by
  simp only[bI]at h;split at h
  . simp at h
  . rename_i e;simp only[Option.map_eq_none_iff]at h
    cases k with
    |zero=>simpa using e
    |succ k=>simpa using lJ h k
def ic(ids:List Nat)(ctr j:Nat):Option Nat:=if j < 4 then some ((ids[j]?).getD (ctr+j))else none
def cG(f:Nat->Option Nat)(hp:List (Nat×bE)):Nat->List Nat->List (Nat×bE)
 |_,[]=>[]
 |j,id::r=>match find hp id with
  |some b=>(j,b.aM f)::cG f hp (j+1) r|none=>cG f hp (j+1) r
def cH{f:Nat->Option Nat}{hp:List (Nat×bE)}:∀ {ids:List Nat} {j k:Nat} {b:bE},find (cG f hp j ids) k=some b-> ∃i id K,k=j+i/\ids[i]? =some id/\find hp id=some K/\b=K.aM f
 | [],j,k,b,h=>by simp[cG,find]at h
 |id::r,j,k,b,h=>by
  simp only[cG]at h
  have tl:find (cG f hp (j+1) r) k=some b-> ∃i S, ∃K,k=j+i/\(id::r)[i]? =some S/\find hp S=some K/\b=K.aM f:=by
   intro h;obtain⟨i,S,K,O,Y,B,g⟩:=cH h;exact⟨i+1,S,K,aa,xT,B,g⟩
  split at h
  . rename_i z N;rw[aF]at h;split at h
    . rename_i e;simp only[ii]at h;exact⟨0,id,z,aa,rfl,N,h.symm⟩
    . exact tl h
  . exact tl h
def gR(ids:List Nat):List (Nat×bE)->List (Nat×bE)
 | []=>[]
 |p::r=>match bI ids p.1 with
  |some _=>gR ids r|none=>p::gR ids r
def oM{ids:List Nat}:∀ {hp:List (Nat×bE)} {k:Nat} {b:bE},find (gR ids hp) k=some b->bI ids k=none/\find hp k=some b
 | [],k,b,h=>by simp[gR,find]at h
 |(q,c)::r,k,b,h=>by
  simp only[gR]at h;split at h
  . rename_i j Q;obtain⟨O,Y⟩:=oM h;refine⟨O,?_⟩;rw[aF];split
    . rename_i e;subst e;rw[Q]at O;simp at O
    . exact Y
  . rename_i Q;rw[aF]at h⊢;split at h
    . rename_i e;subst e;rw[if_pos rfl];exact⟨Q,h⟩
    . rename_i e;obtain⟨O,Y⟩:=oM h;rw[if_neg e];exact⟨O,Y⟩
def fT(g:Nat->Option Nat):List (Nat×bE)->List (Nat×bE)
 | []=>[]
 |p::r=>match g p.1 with
  |some k=>(k,p.2.aM g)::fT g r|none=>fT g r
def mr{g:Nat->Option Nat}(d:∀i j k,g i=some k->g j=some k->i=j):∀ {N:List (Nat×bE)} {k:Nat} {b:bE},find (fT g N) k=some b-> ∃j K,g j=some k/\find N j=some K/\b=K.aM g
 | [],k,b,h=>by simp[fT,find]at h
 |(q,c)::r,k,b,h=>by
  simp only[fT]at h;split at h
  . rename_i P a;rw[aF]at h;split at h
    . rename_i e;subst e;simp only[ii]at h;exact⟨q,c,a,by rw[aF,if_pos rfl],h.symm⟩
    . rename_i e;obtain⟨j,K,O,Y,B⟩:=mr d h;refine⟨j,K,O,?_,B⟩;rw[aF,if_neg]
      . exact Y
      . intro J;subst J;rw[a]at O;exact e (aa5 O)
  . rename_i a;obtain⟨j,K,O,Y,B⟩:=mr d h;refine⟨j,K,O,?_,B⟩;rw[aF,if_neg]
    . exact Y
    . intro J;subst J;rw[a]at O;simp at O
def uQ(ids:List Nat)(ctr:Nat):Bool:=decide (ids.length<=4)&&ids.all (λid=>decide (id < ctr))&&decide ids.Nodup
def TH(P:Program)(n:Nat)(f:FuncId)(args:Lw)(z:List (Nat×bE))(a:V)(N:List (Nat×bE)):Prop:=
 ∀ (w:World) (A:agt) (ρ:Env) (o:Array Value),(∀j,n<=j->ρ j=none)->
  HR (λb=>pK ρ z b\/w.heap.size<=b) A ρ (bJ 4) z w->DJ w A ρ args o.toList->
  Calls P f o w λe s=> ∃x l Z c,e= .returned x/\RV s l Z a x/\HR (λb=>pK ρ z b\/w.heap.size<=b) l Z c N s/\
   dA (λb=>pK ρ z b\/w.heap.size<=b) w s/\jm ρ Z/\fZ (λb=>pK ρ z b\/w.heap.size<=b) A l w
variable{args us:Lw}{ctr:Nat}{res:V}
def Fn.toN{n:Nat}{f:FuncId}{z D:List (Nat×bE)}{a:V}(h:Fn P f args z a D):TH P n f args z a D:=λw A ρ o _ F N=>by
 refine(h w A ρ o F N).mono ?_;rintro e j ⟨x,l,s,c,O,Y,B,g,U,R⟩;exact⟨x,l,s,c,O,Y,B,g,U,R.m⟩
def Sm{M A l:agt}{ρ ρ':Env}{w w':World}{id:Nat}{blk:bE}(Z:dS A l w w')(S:∀k,k < w.heap.size->w'.shape? k=w.shape? k)
 (H:dD ρ ρ') (a:∀b,ρ id=some (.gD b)->A b->l b) (K:∀b,ρ id=some (.gD b)->w'.heap[b]? =w.heap[b]?) (h:HB w M A ρ id blk):HB w' M l ρ' id blk:=by
 cases blk with
 |row L o=>
  obtain⟨O,Y⟩:=h;refine⟨O,?_⟩;rcases Y with⟨b,c,e,s,v,z,R,P,F⟩|⟨Y,B⟩
  . refine .inl ⟨b,c,e,H _ _ s,v,a _ s z,by rw[K b s];exact R,P,λi r j k I Q=>?_⟩;obtain⟨x,N,D,G⟩:=F i r j k I Q;exact⟨x,N,D.keeps Z S H,G⟩
  . exact .inr ⟨H _ _ Y,B⟩
 |mp J y=>
  obtain⟨b,d,s,v,z,R,P,F⟩:=h;refine⟨b,d,H _ _ s,v,a _ s z,by rw[K b s];exact R,P,λi k c n I=>?_⟩;obtain⟨e,O,Y,B,g,U⟩:=F i k c n I;exact⟨e,O,Y,B,g.keeps Z S H,U⟩
def xU{f:FuncId}{hp hin D:List (Nat×bE)}(ids:List Nat)(hok:uQ ids ctr=true)(hfn:TH P ids.length f args hin res D)
 (ha:us.map (W.aM (bI ids))=args) (hh:cG (bI ids) hp 0 ids=hin):
 dI P f us hp ctr (res.aM (ic ids ctr)) (fT (ic ids ctr) D++gR ids hp) (ctr+4):=by
 subst ha;subst hh;simp only[uQ,LD,decide_eq_true_eq,yt]at hok;obtain⟨⟨hlen,hlt⟩,hnd⟩:=hok
 have hidx:∀ {i j id:Nat},ids[i]? =some id->ids[j]? =some id->i=j:=by
  intro i j id O Y;obtain⟨I,c⟩:=jl.1 O;obtain⟨Q,H⟩:=jl.1 Y;exact(adx hnd).1 (c.trans H.symm)
 have hinv:∀ {j id:Nat},ids[j]? =some id->bI ids id=some j:=by
  intro j id h
  cases I:bI ids id with
  |none=>exact absurd h (lJ I j)
  |some k=>rw[hidx (fJ I) h]
 have mU:∀ {j id:Nat},ids[j]? =some id->id < ctr:=λh=>hlt _ (oo h);have FH:∀ {j id:Nat},ids[j]? =some id->j < 4:=λh=>by have:=(jl.1 h).1;omega
 intro M A ρ a w n L o J N
 let ρ0:Env:=λj=>(ids[j]?).bind ρ
 have hρ0:∀id k l,bI ids id=some k->ρ id=some l->ρ0 k=some l:=by
  intro id k l O Y;simp only[ρ0,fJ O,Tf,Y]
 let M':Nat->Prop:=λb=>pK ρ0 (cG (bI ids) hp 0 ids) b\/w.heap.size<=b
 have hMA:∀b,b < w.heap.size->M' b->M b/\A b:=by
  intro b G r;rcases r with⟨j,blk,R,hρ⟩|r
  . obtain⟨i,id,b',rfl,Y,B,_⟩:=cH R;simp only[aas,ρ0,Y,Tf]at hρ;exact((J.heap id b' B).lt hρ).2
  . omega
 have hH:HR M' A ρ0 (bJ 4) (cG (bI ids) hp 0 ids) w:=by
  refine⟨rfl,rfl,λt v z=>by simp[find]at z,λj blk R=>?_,λj j' blk gU b O Y r1 r2=>?_,λj Q=>?_,J.bound,λb G=> .inr G,J.dR.sub (λb G r=>(hMA b G r).1) (λ_ h=>h)⟩
  . obtain⟨i,id,b',rfl,Y,B,rfl⟩:=cH R;refine(J.heap id b' B).aM hρ0 (λl U=>by simp only[aas,ρ0,Y,Tf,U]) (λb G _=> .inl ⟨0+i,_,R,by simp only[aas,ρ0,Y,Tf,G]⟩)
  . obtain⟨i,id,b1,rfl,B,s,_⟩:=cH O;obtain⟨i',id',b2,rfl,C8,h4',_⟩:=cH Y;simp only[aas,ρ0,B,C8,Tf]at r1 r2;have:=J.inj id id' b1 b2 b s h4' r1 r2;subst this;rw[hidx B C8]
  . simp only[ρ0];rw[abe WY];rfl
 have hx':DJ w A ρ0 (us.map (W.aM (bI ids))) o.toList:=by
  refine⟨by simpa using N.1,λk u y g F=>?_⟩;simp only[yu,jU]at g;obtain⟨u',Ev,rfl⟩:=g;exact(N.2 k u' y Ev F).aM hρ0
 refine(hfn w A ρ0 o (λj Q=>by simp only[ρ0];rw[abe Q];rfl) hH hx').mono ?_;rintro e w' ⟨x,d,ρ',F',rfl,z,cU,eU,cI,S⟩
 let ρ2:Env:=λk=>match bI ids k with
  |some j=>ρ' j
  |none=>if ctr<=k/\k < ctr+4 then ρ' (k - ctr)else ρ k
 have PJ:∀j k l,ic ids ctr j=some k->ρ' j=some l->ρ2 k=some l:=by
  intro j k l O Y;simp only[ic]at O;split at O
  . rename_i Q;simp only[ii]at O
    cases I:ids[j]? with
    |some id=>
     rw[I]at O;simp only[YJ]at O;subst O;simp only[ρ2,hinv I];exact Y
    |none=>
     rw[I]at O;simp only[adh]at O;subst O
     have K:bI ids (ctr+j)=none:=by
      cases hq:bI ids (ctr+j)with
      |none=>rfl
      |some q=>have:=mU (fJ hq);omega
     simp only[ρ2,K];rw[if_pos ⟨aa,aa⟩,show ctr+j - ctr=j by omega];exact Y
  . simp at O
 have akN:∀i j k,ic ids ctr i=some k->ic ids ctr j=some k->i=j:=by
  intro i j k O Y;simp only[ic]at O Y;split at O
  . split at Y
    . simp only[ii]at O Y
      cases I:ids[i]? with
      |some id=>
       cases Q:ids[j]? with
       |some id'=>
        rw[I]at O;rw[Q]at Y;simp only[YJ]at O Y;subst O;subst Y;exact hidx I Q
       |none=>
        rw[I]at O;rw[Q]at Y;simp only[YJ,adh]at O Y;have:=mU I;omega
      |none=>
       cases Q:ids[j]? with
       |some id'=>
        rw[I]at O;rw[Q]at Y;simp only[YJ,adh]at O Y;have:=mU Q;omega
       |none=>
        rw[I]at O;rw[Q]at Y;simp only[adh]at O Y;omega
    . simp at Y
  . simp at O
 have hE:dD ρ ρ2:=by
  intro id l U;simp only[ρ2]
  cases I:bI ids id with
  |some j=>
   have Q:=FH (fJ I);exact cI j l Q (hρ0 id j l I U)
  |none=>
   simp only;rw[if_neg]
   . exact U
   . rintro⟨O,_⟩;have:=J.fresh id O;rw[this]at U;simp at U
 have Kx:dA M w w':=eU.weaken (λi I ho=>(hMA i I ho).1);have Z:dS A d w w':=⟨eU.size,λb G VW=>⟨eU.block b G (λr=>VW (hMA b G r).2),λh=>VW (S.2 b G h)⟩⟩
 have hM':∀b,M' b->M b:=λb r=>by
  rcases aa8 b w.heap.size with hlt|hge
  . exact(hMA b hlt r).1
  . exact J.may b hge
 refine⟨x,d,ρ2,rfl,⟨J.size,J.defers,λt v z=>(J.tmps t v z).keeps Z eU.shape hE,λk blk R=>?_,λk k' blk gU b O Y r1 r2=>?_,λk hk'=>?_,cU.bound,λb G=>J.may b (aal eU.size G),J.dR.LN Kx S.2⟩,z.aM PJ,Kx,hE,λb hA hM=>S.1 b hA (λh=>hM (hM' b h)),S.2⟩
 . simp only[dO,adz]at R;rcases R with R|⟨_,R⟩
   . obtain⟨j,b',O,Y,rfl⟩:=mr akN R;exact(cU.heap j b' Y).aM PJ (λl U=>PJ j k l O U) (λb _ r=>hM' b r)
   . obtain⟨O,Y⟩:=oM R;have G:=J.heap k blk Y
     have hnm:∀b,ρ k=some (.gD b)->¬M' b:=λb BK r=>by
      rcases r with⟨j,bl,hfj,hρj⟩|r
      . obtain⟨i,id,b',rfl,q2,q3,_⟩:=cH hfj;simp only[aas,ρ0,q2,Tf]at hρj;have:=J.inj k id blk b' b Y q3 BK hρj;subst this;exact lJ O i q2
      . have:=(G.lt BK).1;omega
     exact Sm Z eU.shape hE (λb BK hA=>S.1 b hA (hnm b BK)) (λb BK=>eU.block b (G.lt BK).1 (hnm b BK)) G
 . have old:∀ {k:Nat} {bl:bE} {b:Nat},find (gR ids hp) k=some bl->ρ2 k=some (.gD b)->find hp k=some bl/\ρ k=some (.gD b)/\bI ids k=none/\b < w.heap.size:=by
    intro k bl b R hρ;obtain⟨g1,g2⟩:=oM R;obtain⟨l,U⟩:=(J.heap k bl g2).some;have:=hE k l U;rw[this]at hρ;simp only[ii]at hρ;subst hρ;exact⟨g2,U,g1,((J.heap k bl g2).lt U).1⟩
   have new:∀ {k:Nat} {bl:bE} {b:Nat},find (fT (ic ids ctr) D) k=some bl->ρ2 k=some (.gD b)-> ∃j b',ic ids ctr j=some k/\find D j=some b'/\ρ' j=some (.gD b):=by
    intro k bl b R hρ;obtain⟨j,b',g1,g2,_⟩:=mr akN R;obtain⟨l,U⟩:=(cU.heap j b' g2).some;have:=PJ j k l g1 U;rw[this]at hρ;simp only[ii]at hρ;subst hρ;exact⟨j,b',g1,g2,U⟩
   have alD:∀ {k k':Nat} {bl AB:bE} {b:Nat},find (fT (ic ids ctr) D) k=some bl->ρ2 k=some (.gD b)->find (gR ids hp) k'=some AB->ρ2 k'=some (.gD b)->False:=by
    intro k k' bl AB b O r1 Y r2;obtain⟨j,b',g1,g2,g3⟩:=new O r1;obtain⟨q1,q2,q3,q4⟩:=old Y r2;have r:=((cU.heap j b' g2).lt g3).2.1;rcases r with⟨i,bl2,Y2,hρi⟩|r
    . obtain⟨i',id,b2,rfl,p2,p3,_⟩:=cH Y2;simp only[aas,ρ0,p2,Tf]at hρi;have:=J.inj k' id AB b2 b q1 p3 q2 hρi;subst this;exact lJ q3 i' p2
    . omega
   simp only[dO,adz]at O Y;rcases O with O|⟨_,O⟩<;>rcases Y with Y|⟨_,Y⟩
   . obtain⟨j,b',g1,g2,g3⟩:=new O r1;obtain⟨j',b'',g1',g2',g3'⟩:=new Y r2;have:=cU.inj j j' b' b'' b g2 g2' g3 g3';subst this;rw[g1]at g1';exact aa5 g1'
   . exact(alD O r1 Y r2).elim
   . exact(alD Y r2 O r1).elim
   . obtain⟨q1,q2,_⟩:=old O r1;obtain⟨q1',q2',_⟩:=old Y r2;exact J.inj k k' _ _ b q1 q1' q2 q2'
 . simp only[bJ]at hk'
   have K:bI ids k=none:=by
    cases hq:bI ids k with
    |none=>rfl
    |some q=>have:=mU (fJ hq);omega
   simp only[ρ2,K];rw[if_neg aa];exact J.fresh k V2
def Ay{f:FuncId}{hp z N:List (Nat×bE)}{a:V}(ids:List Nat)(I:uQ ids ctr=true)(c:Fn P f args z a N)
 (w:us.map (W.aM (bI ids))=args) (d:cG (bI ids) hp 0 ids=z):
 dI P f us hp ctr (a.aM (ic ids ctr)) (fT (ic ids ctr) N++gR ids hp) (ctr+4):=
 xU ids I c.toN w d
def Iq{f:FuncId}{hp z N:List (Nat×bE)}{a:V}(ids:List Nat)(I:uQ ids ctr=true)(c:TH P ids.length f args z a N)
 (w:us.map (W.aM (bI ids))=args) (d:cG (bI ids) hp 0 ids=z):
 dI P f us hp ctr (a.aM (ic ids ctr)) (fT (ic ids ctr) N++gR ids hp) (ctr+4):=
 xU ids I c w d
def NL{f:FuncId}{hp hin:List (Nat×bE)}(ids:List Nat)(hlen:ids.length<=4)(hnd:ids.Nodup)(hsub:∀id,id∈ids->id∈us.flatMap W.ids)(hfn:Fn P f args hin res hin)
 (ha:us.map (W.aM (bI ids))=args) (hh:cG (bI ids) hp 0 ids=hin)
 (KA:∀id,id∈ids-> ∃b,find hp id=some b/\(b.aM (bI ids)).aM (λj=>ids[j]?)=b):
 YF P hp f us (res.aM (λj=>ids[j]?)):=by
 subst ha
 have hidx:∀ {i j id:Nat},ids[i]? =some id->ids[j]? =some id->i=j:=by
  intro i j id O Y;obtain⟨I,c⟩:=jl.1 O;obtain⟨Q,H⟩:=jl.1 Y;exact(adx hnd).1 (c.trans H.symm)
 have hinv:∀ {j id:Nat},ids[j]? =some id->bI ids id=some j:=by
  intro j id h
  cases I:bI ids id with
  |none=>exact absurd h (lJ I j)
  |some k=>rw[hidx (fJ I) h]
 have FH:∀ {j id:Nat},ids[j]? =some id->j < 4:=λh=>by have:=(jl.1 h).1;omega
 intro hp2 hag M A ρ F a w n L o J N;have M7:∀id,id∈ids->find hp2 id=find hp id:=λid hid=>hag id (hsub id hid)
 have hsame:∀ (l:List Nat) (j:Nat),(∀id,id∈l->id∈ids)->cG (bI ids) hp2 j l=cG (bI ids) hp j l:=by
  intro l
  induction l with
  |nil=>intro j _;rfl
  |cons x l ih=>
   intro j U;simp only[cG];rw[M7 x (U x aa1),ih (j+1) (λid hid=>U id (aa2 _ hid))]
 rw[<-hsame ids 0 (λ_ h=>h)]at hh;subst hh
 let ρ0:Env:=λj=>(ids[j]?).bind ρ
 have hρ0:∀id k l,bI ids id=some k->ρ id=some l->ρ0 k=some l:=by
  intro id k l O Y;simp only[ρ0,fJ O,Tf,Y]
 let M':Nat->Prop:=λb=>pK ρ0 (cG (bI ids) hp2 0 ids) b\/w.heap.size<=b
 have hMA:∀b,b < w.heap.size->M' b->M b/\A b:=by
  intro b G r;rcases r with⟨j,blk,R,hρ⟩|r
  . obtain⟨i,id,b',rfl,Y,B,_⟩:=cH R;simp only[aas,ρ0,Y,Tf]at hρ;exact((J.heap id b' B).lt hρ).2
  . omega
 have hH:HR M' A ρ0 (bJ 4) (cG (bI ids) hp2 0 ids) w:=by
  refine⟨rfl,rfl,λt v S=>by simp[find]at S,λj blk R=>?_,λj j' blk gU b O Y r1 r2=>?_,λj Q=>?_,J.bound,λb G=> .inr G,J.dR.sub (λb G r=>(hMA b G r).1) (λ_ h=>h)⟩
  . obtain⟨i,id,b',rfl,Y,B,rfl⟩:=cH R;refine(J.heap id b' B).aM hρ0 (λl U=>by simp only[aas,ρ0,Y,Tf,U]) (λb G _=> .inl ⟨0+i,_,R,by simp only[aas,ρ0,Y,Tf,G]⟩)
  . obtain⟨i,id,b1,rfl,B,D,_⟩:=cH O;obtain⟨i',id',b2,rfl,C8,h4',_⟩:=cH Y;simp only[aas,ρ0,B,C8,Tf]at r1 r2;have:=J.inj id id' b1 b2 b D h4' r1 r2;subst this;rw[hidx B C8]
  . simp only[ρ0];rw[abe WY];rfl
 have hx':DJ w A ρ0 (us.map (W.aM (bI ids))) o.toList:=by
  refine⟨by simpa using N.1,λk u y g K=>?_⟩;simp only[yu,jU]at g;obtain⟨u',Ev,rfl⟩:=g;exact(N.2 k u' y Ev K).aM hρ0
 refine(hfn w A ρ0 o hH hx').mono ?_;rintro e w' ⟨x,d,ρ',F',rfl,S,cU,eU,cI,hg⟩
 let ρ2:Env:=λk=>match bI ids k with
  |some j=>ρ' j|none=>ρ k
 have PJ:∀j k l,ids[j]? =some k->ρ' j=some l->ρ2 k=some l:=by
  intro j k l O Y;simp only[ρ2,hinv O];exact Y
 have hE:dD ρ ρ2:=by
  intro id l U;simp only[ρ2]
  cases I:bI ids id with
  |some j=>exact cI j l (FH (fJ I)) (hρ0 id j l I U)
  |none=>exact U
 have Kx:dA M w w':=eU.weaken (λi I ho=>(hMA i I ho).1);have Z:dS A d w w':=⟨eU.size,λb G VW=>⟨eU.block b G (λr=>VW (hMA b G r).2),λh=>VW (hg.2 b G h)⟩⟩
 have hM':∀b,M' b->M b:=λb r=>by
  rcases aa8 b w.heap.size with hlt|hge
  . exact(hMA b hlt r).1
  . exact J.may b hge
 have aIM:∀ (l:List Nat) (s i id:Nat) (b:bE),l.Nodup->l[i]? =some id->find hp2 id=some b->find (cG (bI ids) hp2 s l) (s+i)=some (b.aM (bI ids)):=by
  intro l
  induction l with
  |nil=>intro s i id b _ h;simp at h
  |cons y l ih=>
   intro s i id b hnd h R
   cases i with
   |zero=>
    simp only[yq,ii]at h;subst h;simp only[cG,R,find,ace,if_true]
   |succ i=>
    simp only[ac9]at h;have:=ih (s+1) i id b (aeq.1 hnd).2 h R;rw[show s+(i+1)=s+1+i by omega];simp only[cG];split
    . rw[aF,if_neg aa];exact this
    . exact this
 have same:∀ {k:Nat} {l:_},ρ k=some l->ρ2 k=some l:=λh=>hE _ _ h;refine⟨x,d,ρ2,rfl,⟨J.size,J.defers,λt v S=>(J.tmps t v S).keeps Z eU.shape hE,λk blk R=>?_,λk k' blk gU b O Y r1 r2=>?_,λk hk'=>?_,cU.bound,λb G=>J.may b (aal eU.size G),J.dR.LN Kx hg.2⟩,S.aM PJ,Kx,hE,hg⟩
 . cases I:bI ids k with
   |some j=>
    have hjk:=fJ I;have MV:=aIM ids 0 j k blk hnd hjk R;rw[aas]at MV;have G:=cU.heap j _ MV;have:=G.aM (f:=λj=>ids[j]?) (ρ2:=ρ2) (M2:=M) (k:=k) PJ (λl U=>PJ j k l hjk U) (λb _ r=>hM' b r);obtain⟨b0,hb0,sX⟩:=KA k (oo hjk);rw[<-M7 k (oo hjk),R]at hb0;rw[<-aa5 hb0]at sX;rw[sX]at this;exact this
   |none=>
    have G:=J.heap k blk R;refine G.keeps Z eU.shape hE hg.1 (λb BK=>eU.block b (G.lt BK).1 ?_);intro r;rcases r with⟨j,bl,hfj,hρj⟩|r
    . obtain⟨i,id,b',rfl,q2,q3,_⟩:=cH hfj;simp only[aas,ρ0,q2,Tf]at hρj;have:=J.inj k id blk b' b R q3 BK hρj;subst this;exact lJ I i q2
    . have:=(G.lt BK).1;omega
 . obtain⟨l,U⟩:=(J.heap k blk O).some;obtain⟨l',hl'⟩:=(J.heap k' gU Y).some;have c:=same U;have H:=same hl';rw[c]at r1;rw[H]at r2;simp only[ii]at r1 r2;subst r1;subst r2;exact J.inj k k' blk gU b O Y U hl'
 . have z:=J.fresh k hk'
   cases I:bI ids k with
   |none=>simp only[ρ2,I];exact z
   |some j=>
    exfalso;have hjk:=fJ I;obtain⟨b0,hb0,_⟩:=KA k (oo hjk);rw[<-M7 k (oo hjk)]at hb0;obtain⟨l,U⟩:=(J.heap k b0 hb0).some;rw[z]at U;simp at U
end Go.aW
namespace Go.aW
open Go
variable{P:Program}{M A:agt}{ρ:Env}{F:agt}{st:St}{a:Act}{w:World}
def VH(z:HS):C->Bool
 | .t _=>true| .own id .. =>(find z id).isSome| .ptr id .. =>(find z id).isSome| .oO _ U=>U.all λp=>(find z p.1).isSome|_=>false
def inW(z:HS):W->Bool
 | .one c=>VH z c| .agg R=>R.all (VH z)
def xQ:HS->HS
 | []=>[]
 |p::r=>if p.1 < 4 then xQ r else p::xQ r
def qX:∀ {hp:HS} {k:Nat} {b:bE},find (xQ hp) k=some b->¬k < 4/\find hp k=some b
 | [],k,b,h=>by simp[xQ,find]at h
 |(q,c)::r,k,b,h=>by
  simp only[xQ]at h;split at h
  . rename_i d;obtain⟨O,Y⟩:=qX h;have P:¬q=k:=λe=>by subst e;exact O d
    exact⟨O,by rw[aF,if_neg P];exact Y⟩
  . rename_i d;rw[aF]at h⊢;split at h
    . rename_i e;subst e;exact⟨d,by rw[if_pos rfl];exact h⟩
    . rename_i e;obtain⟨O,Y⟩:=qX h;exact⟨O,by rw[if_neg e];exact Y⟩
def G0(z hp:HS)(u:W):Option W:=if inW z u=true then some u else bM (xQ hp) u
def QL(z:HS):bE->Prop
 | .row _ o=> ∀e,e∈o-> ∀c,c∈e->VH z c=true| .mp _ _=>False
def od(z hp N:HS):Prop:=
 (∀k b,find z k=some b->k < 4/\ ∃K,find hp k=some K)/\ ∀k L,find N k=some L->find hp k=some L/\(find z k).isSome=true/\QL z L
def atP(P:Program)(rs:List ResultVar)(z:HS)(Good:Lw->HS->Prop):Exit->TS->HS->Nat->Prop
 | .normal,d,F,_| .ret,d,F,_=> ∃A Z N,bg P F d rs=some A/\bB (G0 z F) A=some Z/\od z F N/\Good Z N|_,_,_,_=>False
variable{r:Rc}{args:Lw}
def ij{Tb:Tables}[pG P Tb]{f:FuncId}{fn:Func}{n:Nat}{rs:List ResultVar}{hin:HS}{Good:Lw->HS->Prop}(R:P.funcs[f]? =some fn)(h:X P n r (atP P rs hin Good) (dz 0 args) hin 4)
 (I:fnI Tb fn=some (n,rs,r):=by conv=>lhs;cbv) (U:args.length<=n:=by simp): ∃ts hout,Fn P f args hin (aR ts) hout/\Good ts hout:=by
 obtain⟨c,G,J,K,gy⟩:=zw (P:=P) I;subst K;subst gy;obtain⟨e,st',c',⟨hn',d⟩,hw⟩:=X.Y8 J h;obtain⟨n',tm',hp'⟩:=st';simp only at hn' d;subst hn'
 have main:∀us ts hout,uP e->bg P hp' tm' fn.results.toList=some us->bB (G0 hin hp') us=some ts->od hin hp' hout->Good ts hout-> ∃ts hout,Fn P f args hin (aR ts) hout/\Good ts hout:=by
  intro vs ts hout H iG hts hkh hg;refine⟨ts,hout,?_,hg⟩
  . intro w A ρ o hH hxs;refine calls_of_wp R G ?_;have hl':args.length=o.size:=YT
    have cP:Rel (λb=>pK ρ hin b\/w.heap.size<=b) A ρ (bJ 4) ⟨fn.ntmps,dz 0 args,hin⟩ {tmps:=o++Array.replicate (fn.ntmps - o.size) undef,defers:=[]} w:=by
     refine⟨by simp;omega,rfl,λt v z=>?_,hH.heap,hH.inj,hH.fresh,hH.bound,hH.may,hH.dR⟩;obtain⟨_,u,L,rfl⟩:=eS _ _ _ _ z;simp only[ad4]at L;have ht:t < o.size:=by rw[<-hl'];exact(jl.1 L).1
     have yA:o.toList[t]? =some o[t]:=by simp[ht]
     have:=hxs.2 t u _ L yA;have e:(o++Array.replicate (fn.ntmps - o.size) undef).getD t undef=o[t]:=V1
     rw[e];exact this
    refine wp_mono (hw _ A ρ _ w cP) ?_;rintro e2 a' w' ⟨st2,c2,A',ρ',⟨rfl,rfl,rfl⟩,cU,eU,cI,MY⟩
    have mM:bY A A' w:=by
     refine⟨λb hA=>?_,MY.2⟩
     by_cases hM:pK ρ hin b\/w.heap.size<=b
     . rcases hM with⟨id,blk,R,hρ⟩|S
       . obtain⟨g,b',hb'⟩:=hkh.1 id blk R;exact((cU.heap id b' hb').lt (cI id _ g hρ)).2.2
       . have:=hH.bound b hA;omega
     . exact MY.1 b hA hM
    obtain⟨M,hvs,hR⟩:=eA cU iG
    have F:(fn.results.mapM λ(r:ResultVar)=>match r with
     | .tmp t=>(pure (a'.tmps.getD t undef):Sem Value)
     | .cell b t=>do loadVar t (<-asAddr (a'.tmps.getD b undef))).run P w'= .ok M.toArray w':=by
     rw[ab1];simp only[Sem.run_map];exact(congrArg (λr:Result (List Value)=>Result.andThen r λa w'=>Result.ok a.toArray w') hvs).trans rfl
    have hrun:(results fn a'.tmps).run P w'= .ok (if h:M.toArray.size=1 then M.toArray[0]else .tuple M.toArray) w':=by
     show(Bind.bind (fn.results.mapM λ(r:ResultVar)=>match r with
      | .tmp t=>(pure (a'.tmps.getD t undef):Sem Value)
      | .cell b t=>do loadVar t (<-asAddr (a'.tmps.getD b undef))) λvs=>Pure.pure (if h:vs.size=1 then vs[0]else .tuple vs)).run P w'=_
     rw[Sem.run_bind,F];rfl
    have adI:∀k b,find hin k=some b-> ∃l,ρ k=some l/\ρ' k=some l:=by
     intro k b Z;obtain⟨l,U⟩:=(hH.heap k b Z).some;exact⟨l,U,cI k l (hkh.1 k b Z).1 U⟩
    have aCG:=Rel.forget cU (st':=⟨fn.ntmps,tm',xQ hp'⟩) rfl (λ_ _ h=>h) (λid b h=>(qX h).2)
    have hB:∀id blk b,find (xQ hp') id=some blk->ρ' id=some (.gD b)->¬A b:=by
     intro id blk b R hρ hA;obtain⟨hid,R⟩:=qX R;have hM:=(Rel.own cU R hρ).1;rcases hM with⟨id',gU,qj,hρ'⟩|hM
     . obtain⟨g,b',hb'⟩:=hkh.1 id' gU qj;have:=cU.inj id id' blk b' b R hb' hρ (cI id' _ g hρ');omega
     . have:=hH.bound b hA;omega
    have cell:∀ {c:C} {y:Value},VH hin c=true->RC w' A' ρ' c y->RC w' A ρ c y:=by
     intro c y D hy
     cases c with
     |t x=>exact RT.keeps (w:=w') ⟨ww _,λb _ K=>⟨rfl,λG=>K (mM.1 b G)⟩⟩ hy
     |own id sz i len=>
      simp only[VH]at D;obtain⟨b0,hb0⟩:=aay.1 D;obtain⟨l,O,Y⟩:=adI id b0 hb0;rcases hy with⟨b,cap,q,e,k1,k2⟩|⟨k1,k2⟩
      . rw[Y]at k1;exact .inl ⟨b,cap,q,e,by rw[O];exact k1,k2⟩
      . rw[Y]at k1;exact .inr ⟨by rw[O];exact k1,k2⟩
     |ptr id sz i j=>
      simp only[VH]at D;obtain⟨b0,hb0⟩:=aay.1 D;obtain⟨l,O,Y⟩:=adI id b0 hb0;obtain⟨b,k1,k2⟩:=hy;rw[Y]at k1;exact⟨b,by rw[O];exact k1,k2⟩
     |oO f eE=>
      simp only[VH,yt]at D;obtain⟨vs,k1,k2,k3⟩:=hy;refine⟨vs,k1,k2,λk id sz i j x O Y=>?_⟩;obtain⟨b0,hb0⟩:=aay.1 (D _ (oo O));obtain⟨l,g1,g2⟩:=adI id b0 hb0;obtain⟨b,p1,p2⟩:=k3 k id sz i j x O Y;rw[g2]at p1;exact⟨b,by rw[g1];exact p1,p2⟩
     |_=>simp[VH]at D
    have hheap:∀id blk,find hout id=some blk->HB w' (λb=>pK ρ hin b\/w.heap.size<=b) A ρ id blk:=by
     intro id blk R;obtain⟨qj,MV,hrow⟩:=hkh.2 id blk R;obtain⟨b0,hb0⟩:=aay.1 MV;obtain⟨l,O,Y⟩:=adI id b0 hb0;have hbk:=cU.heap id blk qj
     cases blk with
     |row sz ys=>
      obtain⟨q1,q2⟩:=hbk;refine⟨q1,?_⟩;rcases q2 with⟨b,c,e,k1,k2,k3,k4,k5,k6⟩|⟨k1,k2⟩
      . rw[Y]at k1;refine .inl ⟨b,c,e,by rw[O];exact k1,k2,((hH.heap id b0 hb0).lt (by rw[O];exact k1)).2.2,k4,k5,λi el j q I Q=>?_⟩;obtain⟨y,hy,zi,AX⟩:=k6 i el j q I Q;exact⟨y,hy,cell (hrow el (oo I) q (oo Q)) zi,AX⟩
      . rw[Y]at k1;exact .inr ⟨by rw[O];exact k1,k2⟩
     |mp es clock=>exact hrow.elim
    have hlen:=iR hts
    have one:∀ (k:Nat) (u:W) (y:Value),ts[k]? =some u->(∀v,vs[k]? =some v->RW w' A' ρ' v y)->RW w' A ρ u y:=by
     intro k u y L z;obtain⟨v,kV,Ku⟩:=eZ hts k u L;unfold G0 at Ku;split at Ku
     . rename_i MV;simp only[ii]at Ku;subst Ku;have hvv:=z v kV
       cases v with
       |one c=>exact⟨cell MV hvv.1,hvv.2⟩
       |agg cs=>
        obtain⟨vs',g1,g2,g3⟩:=hvv;exact⟨vs',g1,g2,λk c x D N=>⟨cell (yt.1 MV c (oo D)) (g3 k c x D N).1,(g3 k c x D N).2⟩⟩
     . exact ja aCG (λb G=>mM.1 b G) hB Ku (z v kV) ρ
    have fin:a'.defers=[]/\ ∃v,(results fn a'.tmps).run P w'= .ok v w'/\ ∃x A' ρ' F',Ending.returned v= .returned x/\RV w' A' ρ' (aR ts) x/\HR (λb=>pK ρ hin b\/w.heap.size<=b) A' ρ' F' hout w'/\
     dA (λb=>pK ρ hin b\/w.heap.size<=b) w w'/\jm ρ ρ'/\bY A A' w:=by
     refine⟨cU.defers,_,hrun,_,A,ρ,bJ 4,rfl,?_,⟨rfl,rfl,λt v z=>by simp[find]at z,hheap,λid id' b b' q O Y r1 r2=>by obtain⟨g1,e1,_⟩:=hkh.2 id b O;obtain⟨g2,e2,_⟩:=hkh.2 id' b' Y;obtain⟨c1,d1⟩:=aay.1 e1;obtain⟨c2,d2⟩:=aay.1 e2;exact cU.inj id id' b b' q g1 g2 (cI id _ (hkh.1 id c1 d1).1 r1) (cI id' _ (hkh.1 id' c2 d2).1 r2),hH.fresh,λb G=>aar (hH.bound b G) eU.size,λb G=> .inr (aal eU.size G),hH.dR.LN eU (λ_ _ h=>h)⟩,eU,jm.refl _,bY.refl _ _⟩
     match vs,M,ts,hR,hlen,one with
     | [],[],[],_,_,_=>exact⟨#[],ak,rfl,ak⟩
     | [u],[v],[t],hR,_,one=>exact one 0 t v rfl (λv' kV=>by simp only[yq,ii]at kV;subst kV;exact hR.2 0 u v rfl rfl)
     |u::u2::r,v::v2::s,t::t2::q,hR,hlen,one=>
      have hne:¬ (v::v2::s).toArray.size=1:=ak
      simp only[hne,dite_false];refine⟨_,rfl,?_,λk x y N hy=>one k x y N (λv' kV=>hR.2 k v' y kV (by simpa using hy))⟩;have:=hR.1;simp at this hlen⊢;omega
     | [],_::_,_,hR,_,_=>exact absurd hR.1 ak
     |_::_,[],_,hR,_,_=>exact absurd hR.1 ak
     | [_],_::_::_,_,hR,_,_=>exact absurd hR.1 ak
     |_::_::_,[_],_,hR,_,_=>exact absurd hR.1 ak
     | [],[],_::_,_,hlen,_=>simp at hlen
     | [_],[_],[],_,hlen,_=>simp at hlen
     | [_],[_],_::_::_,_,hlen,_=>simp at hlen
     |_::_::_,_::_::_,[],_,hlen,_=>simp at hlen
     |_::_::_,_::_::_,[_],_,hlen,_=>simp at hlen
    rcases H with rfl|rfl
    . exact fin
    . exact fin
 cases e with
 |normal=>obtain⟨us,ts,hout,O,Y,B,g⟩:=d;exact main us ts hout (.inl rfl) O Y B g
 |ret=>obtain⟨us,ts,hout,O,Y,B,g⟩:=d;exact main us ts hout (.inr rfl) O Y B g
 |_=>exact d.elim
def atS(P:Program)(rs:List ResultVar)(Good:Lw->HS->Prop):Exit->TS->HS->Nat->Prop
 | .normal,d,F,_| .ret,d,F,_=> ∃A a,bg P F d rs=some A/\(a.length<=4/\a.Nodup)/\Good (A.map (W.aM (bI a))) (cG (bI a) F 0 a)|_,_,_,_=>False
def jc{Tb:Tables}[pG P Tb]{f:FuncId}{fn:Func}{n:Nat}{rs:List ResultVar}{Good:Lw->HS->Prop}(R:P.funcs[f]? =some fn)(h:X P n r (atS P rs Good) (dz 0 args) [] 4)
 (I:fnI Tb fn=some (n,rs,r):=by conv=>lhs;cbv) (U:args.length<=n:=by simp): ∃ts hout,yw P f args (aR ts) hout/\Good ts hout:=by
 obtain⟨c,G,J,K,gy⟩:=zw (P:=P) I;subst K;subst gy;obtain⟨e,st',c',⟨hn',d⟩,hw⟩:=X.Y8 J h;obtain⟨n',tm',hp'⟩:=st';simp only at hn' d;subst hn'
 have main:∀us ids,uP e->bg P hp' tm' fn.results.toList=some us->(ids.length<=4/\ids.Nodup)->Good (us.map (W.aM (bI ids))) (cG (bI ids) hp' 0 ids)-> ∃ts hout,yw P f args (aR ts) hout/\Good ts hout:=by
  intro vs ids H iG aqW hg;obtain⟨aCY,hnd⟩:=aqW;refine⟨_,_,?_,hg⟩;intro w A o hH hxs;refine calls_of_wp R G ?_;have hl':args.length=o.size:=YT
  have cP:Rel (λb=>pK (λ_=>none) [] b\/w.heap.size<=b) A (λ_=>none) (bJ 4) ⟨fn.ntmps,dz 0 args,[]⟩ {tmps:=o++Array.replicate (fn.ntmps - o.size) undef,defers:=[]} w:=by
   refine⟨by simp;omega,rfl,λt v z=>?_,hH.heap,hH.inj,hH.fresh,hH.bound,hH.may,hH.dR⟩;obtain⟨_,u,L,rfl⟩:=eS _ _ _ _ z;simp only[ad4]at L;have ht:t < o.size:=by rw[<-hl'];exact(jl.1 L).1
   have yA:o.toList[t]? =some o[t]:=by simp[ht]
   have:=hxs.2 t u _ L yA;have e:(o++Array.replicate (fn.ntmps - o.size) undef).getD t undef=o[t]:=V1
   rw[e];exact this
  refine wp_mono (hw _ A _ _ w cP) ?_;rintro e2 a' w' ⟨st2,c2,D,ρ',⟨rfl,rfl,rfl⟩,cU,eU,cI,MY⟩;have mM:=zm hH.bound MY;obtain⟨Z,hvs,M⟩:=eA cU iG
  have F:(fn.results.mapM λ(r:ResultVar)=>match r with
   | .tmp t=>(pure (a'.tmps.getD t undef):Sem Value)
   | .cell b t=>do loadVar t (<-asAddr (a'.tmps.getD b undef))).run P w'= .ok Z.toArray w':=by
   rw[ab1];simp only[Sem.run_map];exact(congrArg (λr:Result (List Value)=>Result.andThen r λa w'=>Result.ok a.toArray w') hvs).trans rfl
  have hrun:(results fn a'.tmps).run P w'= .ok (if h:Z.toArray.size=1 then Z.toArray[0]else .tuple Z.toArray) w':=by
   show(Bind.bind (fn.results.mapM λ(r:ResultVar)=>match r with
    | .tmp t=>(pure (a'.tmps.getD t undef):Sem Value)
    | .cell b t=>do loadVar t (<-asAddr (a'.tmps.getD b undef))) λvs=>Pure.pure (if h:vs.size=1 then vs[0]else .tuple vs)).run P w'=_
   rw[Sem.run_bind,F];rfl
  let ρ2:Env:=λj=>(ids[j]?).bind ρ'
  have hρ2:∀id k l,bI ids id=some k->ρ' id=some l->ρ2 k=some l:=by
   intro id k l O Y;simp only[ρ2,fJ O,Tf,Y]
  have hidx:∀ {i j id:Nat},ids[i]? =some id->ids[j]? =some id->i=j:=by
   intro i j id O Y;obtain⟨I,e1⟩:=jl.1 O;obtain⟨Q,e2⟩:=jl.1 Y;exact(adx hnd).1 (e1.trans e2.symm)
  have hlen:(vs.map (W.aM (bI ids))).length=vs.length:=ak
  have one:∀ (k:Nat) (u:W) (y:Value),(vs.map (W.aM (bI ids)))[k]? =some u->(∀v,vs[k]? =some v->RW w' D ρ' v y)->RW w' D ρ2 u y:=by
   intro k u y L z;simp only[yu,jU]at L;obtain⟨v,kV,rfl⟩:=L;exact(z v kV).aM hρ2
  have fin:a'.defers=[]/\ ∃v,(results fn a'.tmps).run P w'= .ok v w'/\ ∃x D ρ' F',Ending.returned v= .returned x/\RV w' D ρ' (aR (vs.map (W.aM (bI ids)))) x/\HR (λb=>pK (λ_=>none) [] b\/w.heap.size<=b) D ρ' F' (cG (bI ids) hp' 0 ids) w'/\
   dA (λb=>pK (λ_=>none) [] b\/w.heap.size<=b) w w'/\bY A D w:=by
   refine⟨cU.defers,_,hrun,_,D,ρ2,bJ 4,rfl,?_,⟨rfl,rfl,λt v z=>by simp[find]at z,?_,?_,?_,cU.bound,λb G=> .inr (aal eU.size G),cU.dR⟩,eU,mM⟩
   . generalize hts:vs.map (W.aM (bI ids))=ts at hlen one⊢;clear hts
     match vs,Z,ts,M,hlen,one with
     | [],[],[],_,_,_=>exact⟨#[],ak,rfl,ak⟩
     | [u],[v],[t],M,_,one=>exact one 0 t v rfl (λv' kV=>by simp only[yq,ii]at kV;subst kV;exact M.2 0 u v rfl rfl)
     |u::u2::r,v::v2::s,t::t2::q,M,hlen,one=>
      have hne:¬ (v::v2::s).toArray.size=1:=ak
      simp only[hne,dite_false];refine⟨_,rfl,?_,λk x y N S=>one k x y N (λv' kV=>M.2 k v' y kV aA)⟩;have:=M.1;simp at this hlen⊢;omega
     | [],_::_,_,M,_,_=>exact absurd M.1 ak
     |_::_,[],_,M,_,_=>exact absurd M.1 ak
     | [_],_::_::_,_,M,_,_=>exact absurd M.1 ak
     |_::_::_,[_],_,M,_,_=>exact absurd M.1 ak
     | [],[],_::_,_,hlen,_=>simp at hlen
     | [_],[_],[],_,hlen,_=>simp at hlen
     | [_],[_],_::_::_,_,hlen,_=>simp at hlen
     |_::_::_,_::_::_,[],_,hlen,_=>simp at hlen
     |_::_::_,_::_::_,[_],_,hlen,_=>simp at hlen
   . intro j blk R;obtain⟨i,id,b',rfl,Y,B,rfl⟩:=cH R;exact(cU.heap id b' B).aM hρ2 (λl U=>by simp only[aas,ρ2,Y,Tf,U]) (λb _ G=>G)
   . intro j j' blk gU b O Y r1 r2;obtain⟨i,id,b1,rfl,B,g,_⟩:=cH O;obtain⟨i',id',b2,rfl,C8,h4',_⟩:=cH Y;simp only[aas,ρ2,B,C8,Tf]at r1 r2;have:=cU.inj id id' b1 b2 b g h4' r1 r2;subst this;rw[hidx B C8]
   . intro j Q;simp only[ρ2];rw[abe WY];rfl
  rcases H with rfl|rfl
  . exact fin
  . exact fin
 cases e with
 |normal=>obtain⟨us,ids,O,Y,B⟩:=d;exact main us ids (.inl rfl) O Y B
 |ret=>obtain⟨us,ids,O,Y,B⟩:=d;exact main us ids (.inr rfl) O Y B
 |_=>exact d.elim
def Dx{f:FuncId}{us:Lw}{hp N:HS}{ctr:Nat}{v:V}(L:wm us=true)(h:yw P f us v N):gY P hp ctr f us (v.up ctr) (gK ctr N++hp):=
 .inl ⟨v,N,us,h,rfl,rfl,.inl ⟨rfl,L⟩⟩
end Go.aW
namespace Go.aW
open Go
variable{P:Program}
def jx{α:Sort _}:TS->(TS->α)->α
 | [],k=>k []
 |p::r,k=>match p with
  |(t,v)=>wy v λv=>jx r λr=>k ((t,v)::r)
def dX{α:Sort _}:∀ (l:TS) (k:TS->α),jx l k=k l
 | [],_=>rfl
 |(t,v)::r,k=>by simp only[jx,dj];rw[dX r]
def aBj(k:Nat)(v:V):TS->TS
 | []=>[]
 |p::r=>match p with
  |(t,u)=>if t=k then(t,v)::r else(t,u)::aBj k v r
def fF:List Nat->List V->TS->TS
 |k::w,v::o,d=>fF w o (aBj k v d)|_,_,d=>d
def aB3(x:Nat):List Nat->Bool
 | []=>false
 |y::r=>match Nat.beq x y with
  |true=>true|false=>aB3 x r
def zM:List Nat->List Nat->List Nat
 |acc,[]=>acc
 |acc,x::r=>match Nat.blt x 4 with
  |true=>zM acc r
  |false=>match aB3 x acc with
   |true=>zM acc r|false=>zM (acc++[x]) r
def xG{α:Sort _}:List Nat->(List Nat->α)->α
 | [],k=>k []|x::r,k=>zo x λx=>xG r λr=>k (x::r)
def xY(tm:TS):List Nat->List Nat->List Nat
 |a,[]=>a
 |a,k::w=>match find tm k with
  |some v=>xG (zM a v.ids) λa=>xY tm a w|none=>xY tm a w
def mS(tm:TS)(hp:HS):List Nat->List (Nat×Nat)->List Nat
 |a,[]=>a
 |a,(k,j)::r=>match find tm k with
  |some (.w (.one (.ptr id _ i _)))=>match find hp id with
   |some (.row _ o)=>match o[i]? with
    |some e=>match e[j]? with
     |some c=>xG (zM a c.ids) λa=>mS tm hp a r|none=>mS tm hp a r
    |none=>mS tm hp a r
   |_=>mS tm hp a r
  |some (.w (.one (.own id _ i _)))=>match find hp id with
   |some (.row _ o)=>match o[i+j]? with
    |some (c::_)=>xG (zM a c.ids) λa=>mS tm hp a r|_=>mS tm hp a r
   |_=>mS tm hp a r
  |_=>mS tm hp a r
def acA:Nat->List Nat->List (Nat×Nat)
 |_,[]=>[]|c,x::r=>(x,c)::acA (c+4) r
def Bo(N:List Nat)(a:List (Nat×Nat))(tm:TS)(hp:HS):Ren:=
 xG (xY tm [] N) λb=>xG (mS tm hp b a) λl=>⟨N,acA 4 l,4+4 * l.length⟩
def PU{α:Sort _}:List (Nat×Nat)->(List (Nat×Nat)->α)->α
 | [],k=>k []
 |p::r,k=>match p with
  |(a,b)=>zo a λa=>zo b λb=>PU r λr=>k ((a,b)::r)
def KG{α:Sort _}:∀ (l:List (Nat×Nat)) (k:List (Nat×Nat)->α),PU l k=k l
 | [],_=>rfl
 |(a,b)::r,k=>by simp only[PU,jy];rw[KG r]
def qW{α:Sort _}(S:Ren)(k:Ren->α):α:=
 match S with
 |⟨N,a,e⟩=>PU a λa=>zo e λe=>k ⟨N,a,e⟩
def kP{α:Sort _}(S:Ren)(k:Ren->α):qW S k=k S:=by cases S;simp only[qW,KG,jy]
def mq{α:Sort _}:HS->(HS->α)->α
 | [],k=>k []
 |p::r,k=>match p with
  |(t,.row N o)=>mq r λr=>k ((t,.row N o)::r)|(t,.mp B c)=>mq r λr=>k ((t,.mp B c)::r)
def fL{α:Sort _}:∀ (l:HS) (k:HS->α),mq l k=k l
 | [],_=>rfl
 |(t,.row _ _)::r,k=>by simp only[mq];rw[fL r]
 |(t,.mp _ _)::r,k=>by simp only[mq];rw[fL r]
variable{ctr id sz N:Nat}{D:TS}{n b a:Int}{y x:Prop}{Pd:Lt->Prop}{rows:Lq}{rs:List ResultVar}{xs:Lz}{us:Lw}{Good:Lw->Prop}
def aV{n:Nat}{b:Rc}{Q:Exit->TS->HS->Nat->Prop}{tm:TS}{hp:HS}(N:List Nat)(a:List (Nat×Nat))(ks:List Nat)(R:Nat->List V->Prop)(A:Nat)(v:List V){j:HS}{y:Nat}
 (x:qW (Bo N a tm hp) λS=>jx (S.tm tm) λt=>mq (S.hp hp) λq=>S.ok=true/\t=D/\q=j/\S.ctr=y)
 (F:D.length=N.length) (z:D=fF ks v D) (h:R A v)
 (s:∀m vs,R m vs->jx (fF ks vs D) λr=>X P n b (dP (bA λtm' hp' c'=> ∃m' e,R m' e/\tm'=fF ks e D/\hp'=j/\c'=y/\m' < m) Q) r j y):
 ∃I:Nat->TS->HS->Nat->Prop,bA (λtm hp c=> ∃m,I m tm hp c) tm hp ctr/\
  ∀m tm hp c,I m tm hp c->X P n b (dP (bA λtm hp c=> ∃m',m' < m/\I m' tm hp c) Q) tm hp c:=by
 rw[kP,dX,fL]at x;obtain⟨l,H,o,G⟩:=x;refine⟨λm tm' hp' c'=> ∃e,R m e/\tm'=fF ks e D/\hp'=j/\c'=y,bA.mk' ⟨Bo N a tm hp,l,A,v,h,H.trans z,o,G⟩,?_⟩;rintro m tm' d c' ⟨vs,M,rfl,rfl,rfl⟩;have:=s m vs M;rw[dX]at this;refine(congrArg (λJ=>X P n b (dP (bA J) Q) _ _ _) ?_).mp this;funext tm' hp' c'';exact propext ⟨λ⟨m',e,O,Y,B,g,U⟩=>⟨m',U,e,O,Y,B,g⟩,λ⟨m',U,e,O,Y,B,g⟩=>⟨m',e,O,Y,B,g,U⟩⟩
def gh{n:Nat}{b:Rc}{Q:Exit->TS->HS->Nat->Prop}{tm:TS}{hp:HS}(N:List Nat)(a:List (Nat×Nat))(ks:List Nat)(R:Nat->List V->HS->Prop)(A:Nat)(v:List V){d:HS}{y:Nat}
 (x:qW (Bo N a tm hp) λS=>jx (S.tm tm) λt=>mq (S.hp hp) λq=>S.ok=true/\t=D/\q=d/\S.ctr=y)
 (F:D.length=N.length) (z:D=fF ks v D) (h:R A v d)
 (s:∀m vs hq,R m vs hq->jx (fF ks vs D) λr=>X P n b (dP (bA λtm' hp' c'=> ∃m' e,R m' e hp'/\tm'=fF ks e D/\c'=y/\m' < m) Q) r hq y):
 ∃I:Nat->TS->HS->Nat->Prop,bA (λtm hp c=> ∃m,I m tm hp c) tm hp ctr/\
  ∀m tm hp c,I m tm hp c->X P n b (dP (bA λtm hp c=> ∃m',m' < m/\I m' tm hp c) Q) tm hp c:=by
 rw[kP,dX,fL]at x;obtain⟨l,H,o,G⟩:=x;refine⟨λm tm' hp' c'=> ∃e,R m e hp'/\tm'=fF ks e D/\c'=y,bA.mk' ⟨Bo N a tm hp,l,A,v,by rw[o];exact h,H.trans z,G⟩,?_⟩;rintro m tm' hq c' ⟨vs,M,rfl,rfl⟩;have:=s m vs hq M;rw[dX]at this;refine(congrArg (λJ=>X P n b (dP (bA J) Q) _ _ _) ?_).mp this;funext tm' hp' c'';exact propext ⟨λ⟨m',e,O,Y,g,U⟩=>⟨m',U,e,O,Y,g⟩,λ⟨m',U,e,O,Y,g⟩=>⟨m',e,O,Y,g,U⟩⟩
def pI(Pd:Lt->Prop)(rows:Lq):Prop:= ∀r,r∈rows-> ∃e,r=e.map .t/\Pd e
def HD(e:Lt)(f:Nat->Option Nat):(e.map C.t).map (C.aM f)=e.map C.t:=by
 rw[acm];rfl
def pI.aM{Pd:Lt->Prop}{rows:Lq}(h:pI Pd rows)(f:Nat->Option Nat):pI Pd (rows.map λe=>e.map (C.aM f)):=by
 intro r J;simp only[aad]at J;obtain⟨U,g,rfl⟩:=J;obtain⟨e,rfl,H⟩:=h U g;exact⟨e,HD e f,H⟩
def pI.set{Pd:Lt->Prop}{rows:Lq}(h:pI Pd rows){i:Nat}{e:Lt}(H:Pd e):pI Pd (rows.set i (e.map .t)):=by
 intro r J;rcases aao J with J|rfl
 . exact h r J
 . exact⟨e,rfl,H⟩
def pI.snoc(h:pI Pd rows){e:Lt}(H:Pd e):pI Pd (rows++[e.map .t]):=by
 intro r J;simp only[yl,vv]at J;rcases J with J|rfl
 . exact h r J
 . exact⟨e,rfl,H⟩
def pI.replicate{Pd:Lt->Prop}{n:Nat}{e:Lt}(H:Pd e):pI Pd (List.replicate n (e.map .t)):=by
 intro r J;obtain⟨_,rfl⟩:=acv.1 J;exact⟨e,rfl,H⟩
def N3{i:Nat}{K:Lc->Prop}(h:pI Pd rows)(I:i < rows.length)(Z:∀e,Pd e->rows[i]? =some (e.map .t)->K (e.map .t)):mP rows i K:=by
 obtain⟨e,H,F⟩:=h _ (aaC I);have:rows[i]? =some (e.map .t):=by rw[<-H];simp[I]
 simp only[mP,this];exact Z e F this
def KF{Pd:Lt->Prop}{hp:HS}{d:Nat}:∀ {rows:Lq},pI Pd rows-> ∃xs,bB (bB (cA d hp)) rows=some xs/\xs.length=rows.length/\ ∀e,e∈xs->Pd e
 | [],_=>⟨[],rfl,rfl,ak⟩
 |r::rows,h=>by
  obtain⟨xs,O,Y,B⟩:=KF (hp:=hp) (d:=d) (rows:=rows) (λq s=>h q (aa2 _ s));obtain⟨e,rfl,H⟩:=h r aa1
  have b:∀e:Lt,bB (cA d hp) (e.map .t)=some e:=by
   intro e
   induction e with
   |nil=>rfl
   |cons x e c=>
    have:cA d hp (.t x)=some x:=by cases d<;>rfl
    simp only[aaq,bB,this,c]
  refine⟨e::xs,by simp only[bB,b,O],by simp[Y],λq s=>?_⟩;rcases aak.1 s with rfl|s
  . exact H
  . exact B q s
def GL(sz:Nat)(p:Lz->Prop)(ts:Lw):Prop:= ∃o,ts=[.one (.t (.aO sz o))]/\p o
def gL{tm:TS}{hp:HS}{t:Nat}{len:Nat}{p:Lz->Prop}(J:rs=[.tmp t])(h:find tm t=some (.w (.one (.own id sz 0 len))))(R:find hp id=some (.row sz rows))(U:len=rows.length)
 (D:pI Pd rows) (hg:∀xs,xs.length=rows.length->(∀e,e∈xs->Pd e)->p xs): ∃us ts,bg P hp tm rs=some us/\bB (bM hp) us=some ts/\GL sz p ts:=by
 subst J;subst U;obtain⟨xs,O,Y,B⟩:=KF (hp:=hp) (d:=5) D;refine⟨[.one (.own id sz 0 rows.length)],[.one (.t (.aO sz xs))],by simp only[bg,de,h],?_,xs,rfl,hg xs Y B⟩
 have A:cA 6 hp (.own id sz 0 rows.length)=some (.aO sz xs):=by
  have M:(rows.drop 0).take rows.length=rows:=ak
  simp only[cA,R,aas,ww,and_self,if_true,M,O,wv]
 simp only[bB,bM,A,wv]
def gLt{tm:TS}{hp:HS}{t:Nat}{p:Lz->Prop}(J:rs=[.tmp t])(h:find tm t=some (.w (.one (.t (.aO sz xs)))))(hg:p xs): ∃us ts,bg P hp tm rs=some us/\bB (bM hp) us=some ts/\GL sz p ts:=by
 subst J;exact⟨[.one (.t (.aO sz xs))],[.one (.t (.aO sz xs))],by simp only[bg,de,h],rfl,xs,rfl,hg⟩
def aI{J:TS->HS->Nat->Prop}{tm:TS}{hp:HS}(N:List Nat)(a:List (Nat×Nat))
 (h:qW (Bo N a tm hp) λS=>jx (S.tm tm) λt=>mq (S.hp hp) λq=>S.ok=true/\J t q S.ctr):bA J tm hp ctr:=by
 rw[kP,dX,fL]at h;exact .mk _ h.1 h.2
def aD{f:FuncId}{hp:HS}{K:V->HS->Nat->Prop}(L:wm us=true)(h: ∃ts,Fn P f us [] (aR ts) []/\(aR ts).cR=true/\Good ts)
 (Z:∀ts,Good ts->K (aR ts) hp (ctr+4)): ∃v hp' c',dI P f us hp ctr v hp' c'/\K v hp' c':=by
 obtain⟨ts,O,Y,B⟩:=h;exact⟨_,_,_,j7 (gH Y L O),Z ts B⟩
def aN{f:FuncId}{hp:HS}{K:V->HS->Prop}(L:wm us=true)(h: ∃ts,Fn P f us [] (aR ts) []/\(aR ts).cR=true/\Good ts)
 (Z:∀ts,Good ts->K (aR ts) hp): ∃v hp',gY P hp ctr f us v hp'/\K v hp':=by
 obtain⟨ts,O,Y,B⟩:=h;exact⟨_,_,gH Y L O,Z ts B⟩
def iJ{f:FuncId}{ts:Lw}{hp:HS}{K:V->HS->Nat->Prop}(U:bB (bM hp) us=some ts)(h: ∃rs,Fn P f ts [] (aR rs) []/\(aR rs).cR=true/\Good rs)
 (R:∀rs,Good rs->(aR rs).flat=true) (Z:∀rs,Good rs->K (aR rs) hp (ctr+4)): ∃v hp' c',dI P f us hp ctr v hp' c'/\K v hp' c':=by
 obtain⟨rs,O,Y,B⟩:=h;exact⟨_,_,_,(ri Y U (R rs B) O).m,Z rs B⟩
def mK{f:FuncId}{args:Lw}{hp z:HS}{K:V->HS->Nat->Prop}{Good:Lw->HS->Prop}(ids:List Nat)(I:uQ ids ctr=true)(h: ∃ts N,Fn P f args z (aR ts) N/\Good ts N)
 (w:us.map (W.aM (bI ids))=args) (d:cG (bI ids) hp 0 ids=z) (Z:∀ts N,Good ts N->K ((aR ts).aM (ic ids ctr)) (fT (ic ids ctr) N++gR ids hp) (ctr+4)): ∃v hp' c',dI P f us hp ctr v hp' c'/\K v hp' c':=by
 obtain⟨ts,N,O,Y⟩:=h;exact⟨_,_,_,Ay ids I O w d,Z ts N Y⟩
def aJ{p:Prop}[Decidable p](hx:p->x)(hy:¬p->y):br (decide p) x y:=
 aP (λh=>hx (of_decide_eq_true h)) (λh=>hy (of_decide_eq_false h))
def rM(hx:a=b->x)(hy:a≠b->y):br (a==b) x y:=aP (λh=>hx bc) (λh=>hy bc)
def bG(hx:a≠b->x)(hy:a=b->y):br (a !=b) x y:=aP (λh=>hx bc) (λh=>hy bc)
inductive BrS:Bool->Prop->Prop->Prop where
 |dec {p:Prop} [Decidable p]:BrS (decide p) p (¬p)
 |eqq {a b:Int}:BrS (a==b) (a=b) (a≠b)
 |nee {a b:Int}:BrS (a !=b) (a≠b) (a=b)
 |any {b:Bool}:BrS b (b=true) (b=false)
def bZz{b:Bool}{P Q:Prop}(hx:P->x)(hy:Q->y)(hb:BrS b P Q:=by first|exact .dec|exact .eqq|exact .nee|exact .any):br b x y:=by
 cases hb with
 |dec=>exact aJ hx hy
 |eqq=>exact rM hx hy
 |nee=>exact bG hx hy
 |any=>exact aP hx hy
def dB(w:0<=a):0<=a.tmod b:=ads _ w
def di(G:0 < b):a.tmod b < b:=ac4 _ G
def zR(n:Int): -9223372036854775808<=IntKind.i64.wrap n/\IntKind.i64.wrap n < 9223372036854775808:=by
 simp only[IntKind.wrap,IntKind.bits,IntKind.signed,afm];split
 . rename_i h;simp at h⊢;omega
 . rename_i h;simp at h⊢;omega
def RI(N:Nat)(m:Nat)(vs:List V):Prop:= ∃i:Nat,i<=N/\m=N - i/\vs=[iV .i64 (i:Int)]
def RI.zero:RI N N [iV .i64 0]:=⟨0,aa7 _,rfl,rfl⟩
def RI.succ{i:Nat}(h:i < N)(D:N<=maxLen):RI N (N - (i+1)) [iV .i64 (IntKind.i64.wrap ((i:Int)+1))]:=
 ⟨i+1,h,rfl,by rw[aB aa (by simp only[maxLen]at D;omega)];rfl⟩
def aG{K:Lt->Prop}(hx:∀e,e∈xs->Pd e)(z:0<=n)(O:n < (xs.length:Int))(Z:∀e,Pd e->xs[n.toNat]? =some e->K e):0<=n/\ ∃e,xs[n.toNat]? =some e/\K e:=by
 have l:n.toNat < xs.length:=aa
 exact⟨z,xs[n.toNat],by simp[l],Z _ (hx _ (aaC l)) agc⟩
def jF{s:ByteArray}{K:UInt8->Prop}(z:0<=n)(O:n < (s.size:Int))(Z:∀b,K b):0<=n/\ ∃b,s[n.toNat]? =some b/\K b:=by
 have l:n.toNat < s.size:=aa
 exact⟨z,s[n.toNat],by simp[l],Z _⟩
def ZK{s:ByteArray}{B:Nat}{K:UInt8->Prop}(D:s.size=N)(x:s.data.toList.all (λb=>Nat.ble b.toNat B)=true)(z:0<=n)(O:n < (N:Int))(Z:∀b:UInt8,b.toNat<=B->K b):0<=n/\ ∃b,s[n.toNat]? =some b/\K b:=by
 have l:n.toNat < s.size:=aa
 refine⟨z,s[n.toNat],by simp[l],Z _ ?_⟩
 have r:s[n.toNat]∈s.data.toList:=by
  have:s[n.toNat]=s.data[n.toNat]'l:=rfl;rw[this];simp
 exact abp (yt.1 x _ r)
def dH{α:Type}{xs:List α}{Pd:α->Prop}(h:∀e,e∈xs->Pd e)(a b:Nat):∀e,e∈ (xs.drop a).take b->Pd e:=λe H=>h e (abc (aah H))
def jt{α:Type}{xs:List α}{B:Nat}(h:xs.length<=B)(a b:Nat):((xs.drop a).take b).length<=B:=by simp only[aab,aax];omega
def cT{l h:Nat}{K:C->Prop}(O:l<=h)(Y:h<=xs.length)(Z:K (.t (.aO sz ((xs.drop l).take (h - l))))):(l<=h/\h<=xs.length)/\xS (.t (.aO sz xs)) l h K:=by
 refine⟨⟨O,Y⟩,?_⟩;simp only[xS,Im,if_pos (⟨O,Y⟩:l<=h/\h<=xs.length)];exact Z
def oZ{i len l h:Nat}{K:C->Prop}(O:l<=h)(Y:h<=len)(P:h≠l\/l=0)(Z:K (.own id sz (i+l) (h - l))):(l<=h/\h<=len)/\xS (.own id sz i len) l h K:=by
 refine⟨⟨O,Y⟩,?_⟩;have e:¬ (h=l/\l≠0):=aa
 simp only[xS,Im,if_neg e,if_pos (⟨O,Y⟩:l<=h/\h<=len)];exact Z
def g1{tm:TS}{hp:HS}{t:Nat}{x:T}(J:rs=[.tmp t])(h:find tm t=some (.w (.one (.t x))))(hg:Good [.one (.t x)]):
 ∃us ts,bg P hp tm rs=some us/\bB (bM hp) us=some ts/\Good ts:=by
 subst J;exact⟨[.one (.t x)],[.one (.t x)],by simp only[bg,de,h],rfl,hg⟩
def gC{tm:TS}{hp:HS}{b ty n:Nat}{c:C}{cs:Lc}{j:Nat}{ts:Lt}(J:rs=[.cell b ty])(w:lc P ty=some true)(A:dc P ty=some n)
 (h:find tm b=some (.w (.one c))) (S:deref hp c=some (cs,j)) (U:j+n<=cs.length) (a:bB (cA 6 hp) ((cs.drop j).take n)=some ts) (hg:Good [.agg (ts.map .t)]):
 ∃us ts,bg P hp tm rs=some us/\bB (bM hp) us=some ts/\Good ts:=by
 subst J;refine⟨[.agg ((cs.drop j).take n)],[.agg (ts.map .t)],?_,?_,hg⟩
 . simp only[bg,de,h,gA,S,nN,w,A,if_pos U,wv]
 . simp only[bB,bM,a,wv]
def oq(p:Int->Prop)(ts:Lw):Prop:= ∃n,ts=[.one (.t (.val (.int .i64 n)))]/\p n
def ZC(p:Prop)(ts:Lw):Prop:= ∃b,ts=[.one (.t (.val (.bool b)))]/\(b=true↔p)
def jX{tm:TS}{hp:HS}{t:Nat}{p:Int->Prop}(J:rs=[.tmp t])(h:find tm t=some (iV .i64 n))(hp':p n): ∃us ts,bg P hp tm rs=some us/\bB (bM hp) us=some ts/\oq p ts:=g1 J h ⟨n,rfl,hp'⟩
def gBp{tm:TS}{hp:HS}{t:Nat}{b:Bool}{p:Prop}(J:rs=[.tmp t])(h:find tm t=some (bV b))(hp':b=true↔p): ∃us ts,bg P hp tm rs=some us/\bB (bM hp) us=some ts/\ZC p ts:=g1 J h ⟨b,rfl,hp'⟩
def GI(ts:Lw):Prop:= ∃n,ts=[.one (.t (.val (.int .i64 n)))]
def GB(ts:Lw):Prop:= ∃b,ts=[.one (.t (.val (.bool b)))]
def gI{tm:TS}{hp:HS}{t:Nat}(J:rs=[.tmp t])(h:find tm t=some (iV .i64 n)): ∃us ts,bg P hp tm rs=some us/\bB (bM hp) us=some ts/\GI ts:=g1 J h ⟨n,rfl⟩
def gB{tm:TS}{hp:HS}{t:Nat}{b:Bool}(J:rs=[.tmp t])(h:find tm t=some (bV b)): ∃us ts,bg P hp tm rs=some us/\bB (bM hp) us=some ts/\GB ts:=g1 J h ⟨b,rfl⟩
end Go.aW
namespace Go.aW.Cd
open Go Go.Proofs
abbrev Tg(n:Nat)(a:List W)(G:List W->Prop):Prop:= ∃Z,Fn Tryz.prog n a [] (aR Z) []/\(aR Z).cR=true/\G Z
abbrev Te(n:Nat)(a r:List W):Prop:= ∃Z,Fn Tryz.prog n a [] (aR Z) []/\(aR Z).cR=true/\Z=r
abbrev Sp:=Int×Int
abbrev tI(n:Int):T:= .val (.int .i64 n)
abbrev tB(b:Bool):T:= .val (.bool b)
abbrev oI(n:Int):W:= .one (.t (tI n))
abbrev lH(s:Sp):W:= .agg [.t (tI s.1),.t (tI s.2)]
def gW{P:Program}{rs:List ResultVar}{tm:TS}{hp:HS}:True->True->True:=λ_ _=>trivial
def g2{P:Program}{rs:List ResultVar}{tm:TS}{hp:HS}:True->True->True:=λ_ _=>trivial
def tw(n:Int):Tg 62 [oI n] GB:=by
 refine aC Tryz.func62 ?_
 repeat' ((conv=>whnf);first|refine aP (λh=>?_) (λh=>?_)|refine And.intro ag ?_|exact gI rfl rfl|exact gB rfl rfl|exact gW rfl rfl|exact g2 rfl rfl)
def lM(a b:Int):Tg 32 [oI a,oI b] GI:=by
 refine aC Tryz.func32 ?_
 repeat' ((conv=>whnf);first|(refine aD rfl (tw _) ?_;rintro _ ⟨b,rfl⟩)|(refine aN rfl (tw _) ?_;rintro _ ⟨b,rfl⟩)|refine aP (λh=>?_) (λh=>?_)|refine And.intro ag ?_|exact gI rfl rfl|exact gB rfl rfl|exact gW rfl rfl|exact g2 rfl rfl)
def fN(a b c:Sp):Tg 235 [lH a,lH b,lH c] GI:=by
 refine aC Tryz.func235 ?_
 repeat' ((conv=>whnf);first|refine aP (λh=>?_) (λh=>?_)|refine And.intro ag ?_|exact gI rfl rfl|exact gB rfl rfl|exact gW rfl rfl|exact g2 rfl rfl)
def Cy(a b c:Sp):Tg 236 [lH a,lH b,lH c] GB:=by
 refine aC Tryz.func236 ?_
 repeat' ((conv=>whnf);first|(refine aD rfl (fN (_,_) (_,_) (_,_)) ?_;rintro _ ⟨n,rfl⟩)|(refine aN rfl (fN (_,_) (_,_) (_,_)) ?_;rintro _ ⟨n,rfl⟩)|refine aP (λh=>?_) (λh=>?_)|refine And.intro ag ?_|exact gI rfl rfl|exact gB rfl rfl|exact gW rfl rfl|exact g2 rfl rfl)
def sH(a b c d:Sp):Tg 237 [lH a,lH b,lH c,lH d] GB:=by
 refine aC Tryz.func237 ?_
 repeat' ((conv=>whnf);first|(refine aD rfl (fN (_,_) (_,_) (_,_)) ?_;rintro _ ⟨n,rfl⟩)|(refine aN rfl (fN (_,_) (_,_) (_,_)) ?_;rintro _ ⟨n,rfl⟩)|(refine aD rfl (lM _ _) ?_;rintro _ ⟨n,rfl⟩)|(refine aN rfl (lM _ _) ?_;rintro _ ⟨n,rfl⟩)|refine aP (λh=>?_) (λh=>?_)|refine And.intro ag ?_|exact gI rfl rfl|exact gB rfl rfl|exact gW rfl rfl|exact g2 rfl rfl)
def sI(a b c:Sp):Tg 190 [lH a,lH b,lH c] GB:=by
 refine aC Tryz.func190 ?_
 repeat' ((conv=>whnf);first|(refine aD rfl (fN (_,_) (_,_) (_,_)) ?_;rintro _ ⟨n,rfl⟩)|(refine aN rfl (fN (_,_) (_,_) (_,_)) ?_;rintro _ ⟨n,rfl⟩)|refine aP (λh=>?_) (λh=>?_)|refine And.intro ag ?_|exact gI rfl rfl|exact gB rfl rfl|exact gW rfl rfl|exact g2 rfl rfl)
def wX(a b c d:Sp):Tg 191 [lH a,lH b,lH c,lH d] GB:=by
 refine aC Tryz.func191 ?_
 repeat' ((conv=>whnf);first|(refine aD rfl (Cy (_,_) (_,_) (_,_)) ?_;rintro _ ⟨b,rfl⟩)|(refine aN rfl (Cy (_,_) (_,_) (_,_)) ?_;rintro _ ⟨b,rfl⟩)|(refine aD rfl (sH (_,_) (_,_) (_,_) (_,_)) ?_;rintro _ ⟨b,rfl⟩)|(refine aN rfl (sH (_,_) (_,_) (_,_) (_,_)) ?_;rintro _ ⟨b,rfl⟩)|refine aP (λh=>?_) (λh=>?_)|refine And.intro ag ?_|exact gI rfl rfl|exact gB rfl rfl|exact gW rfl rfl|exact g2 rfl rfl)
def aiL(e:Lt):Prop:= ∃a b,e=[tI a,tI b]
abbrev cO(xs:Lz):Prop:= ∀e,e∈xs->aiL e
abbrev oL(k:Nat)(xs:Lz):W:= .one (.t (.aO k xs))
def vH(xs:Lz)(s:Sp)(hx:cO xs)(U:xs.length<=1000000):Tg 234 [oL 2 xs,lH s] GI:=by
 refine aC Tryz.func234 ?_
 repeat' ((conv=>whnf);first|refine bZz (λh=>?_) (λh=>?_)|(refine aG hx aj aq ?_;rintro _ ⟨a,b,rfl⟩ S)|refine And.intro ag ?_|exact gI rfl rfl|(apply aV [0,3,7,8] [] [8] (RI xs.length) (xs.length) [iV .i64 0];(iterate 3 exact ae);exact RI.zero;rintro _ _ ⟨i,I,rfl,rfl⟩)|(refine aI [0,3,7,8] [] ?_;(conv=>whnf);exact⟨rfl,_,[_],RI.succ (N:=xs.length) (i:=i) aa bq,rfl,rfl,rfl,aa⟩))
def rT(xs:Lz)(s:Sp)(hx:cO xs)(U:xs.length<=1000000):Tg 189 [oL 2 xs,lH s] GB:=by
 refine aC Tryz.func189 ?_
 repeat' ((conv=>whnf);first|(refine aD rfl (vH xs (_,_) hx U) ?_;rintro _ ⟨n,rfl⟩)|exact gB rfl rfl)
def wY(xs:Lz)(hx:cO xs)(U:xs.length<=1000000):Tg 225 [oL 2 xs] GI:=by
 refine aC Tryz.func225 ?_
 repeat' ((conv=>whnf);first|refine aJ (λh=>?_) (λh=>?_)|(refine aG hx aj aq ?_;rintro _ ⟨a,b,rfl⟩ S)|refine And.intro aa ?_|exact gI rfl rfl|(apply aV [0,3,7,8,9] [] [3,9] (λm o=> ∃ (i:Nat) (s:Int),i<=xs.length/\m=xs.length - i/\o=[iV .i64 s,iV .i64 i]) (xs.length) [iV .i64 0,iV .i64 0];(iterate 3 exact ae);exact⟨0,0,aa,aa,rfl⟩;rintro _ _ ⟨i,s,I,rfl,rfl⟩)|(refine aI [0,3,7,8,9] [] ?_;(conv=>whnf);exact⟨rfl,_,[_,_],⟨i+1,_,aa,rfl,by rw[aB (n:=(i:Int)+1) aa aa];rfl⟩,rfl,rfl,rfl,aa⟩))
def G8(xs:Lz)(i:Nat)(hx:cO xs)(U:xs.length<=1000000)(I:i < xs.length):Tg 241 [oL 2 xs,oI i] GI:=by
 refine aC Tryz.func241 ?_
 repeat' ((conv=>whnf);first|(refine aG hx aj aq ?_;rintro _ ⟨a,b,rfl⟩ S)|refine And.intro ag ?_|refine And.intro aa ?_|(refine aN rfl (fN (_,_) (_,_) (_,_)) ?_;rintro _ ⟨n,rfl⟩)|exact gI rfl rfl)
def Cx(xs:Lz)(hx:cO xs)(U:xs.length<=1000000):Tg 142 [oL 2 xs] GB:=by
 refine aC Tryz.func142 ?_
 repeat' ((conv=>whnf);first|refine bZz (λh=>?_) (λh=>?_)|refine cT aa aa ?_|(refine aG hx aj aq ?_;rintro _ ⟨a,b,rfl⟩ S)|refine And.intro ag ?_|refine And.intro aa ?_|(refine aN rfl (rT _ (_,_) (dH hx _ _) (jt U _ _)) ?_;rintro _ ⟨b,rfl⟩)|(refine aN rfl (sI (_,_) (_,_) (_,_)) ?_;rintro _ ⟨b,rfl⟩)|(refine aN rfl (wX (_,_) (_,_) (_,_) (_,_)) ?_;rintro _ ⟨b,rfl⟩)|exact gB rfl rfl|(apply aV [0,3,6,7,8,9,25,26,27] [] [9] (λm o=> ∃j:Nat,i+2<=j/\m=xs.length+2 - j/\j<=xs.length+2/\o=[iV .i64 j]) (xs.length - i) [iV .i64 (IntKind.i64.wrap ((i:Int)+2))];(iterate 3 exact ae);exact⟨i+2,aa,aa,aa,by rw[aB aa aa];rfl⟩;rintro _ _ ⟨j,Q,rfl,n,rfl⟩)|(refine aI [0,3,6,7,8,9,25,26,27] [] ?_;(conv=>whnf);exact⟨rfl,_,[_],⟨j+1,aa,rfl,aa,by rw[aB aa aa];rfl⟩,rfl,rfl,rfl,aa⟩)|(apply aV [0,3,25,26,27] [] [27] (RI xs.length) (xs.length) [iV .i64 0];(iterate 3 exact ae);exact RI.zero;rintro _ _ ⟨i,I,rfl,rfl⟩)|(refine aI [0,3,25,26,27] [] ?_;(conv=>whnf);exact⟨rfl,_,[_],RI.succ (N:=xs.length) (i:=i) aa bq,rfl,rfl,rfl,aa⟩)|(apply aV [0,3,12,13,14] [] [14] (RI xs.length) (xs.length) [iV .i64 0];(iterate 3 exact ae);exact RI.zero;rintro _ _ ⟨i,I,rfl,rfl⟩)|(refine aI [0,3,12,13,14] [] ?_;(conv=>whnf);exact⟨rfl,_,[_],RI.succ (N:=xs.length) (i:=i) aa bq,rfl,rfl,rfl,aa⟩))
def Td(s:Sp):Prop:=(-1048576<=s.1/\s.1<=1048576)/\(-1048576<=s.2/\s.2<=1048576)
def InE(e:Lt):Prop:= ∃a b,e=[tI a,tI b]/\Td (a,b)
def Fu(s:Sp):Tg 141 [lH s] (ZC (¬Td s)):=by
 refine aC Tryz.func141 ?_
 repeat' ((conv=>whnf);first|refine aJ (λh=>?_) (λh=>?_)|(refine gBp rfl rfl ?_;simp only[Td];first|(simp;omega)|omega))
def RH(s:Sp):Tg 253 [lH s] (ZC (¬Td s)):=by
 refine aC Tryz.func253 ?_
 repeat' ((conv=>whnf);first|refine aJ (λh=>?_) (λh=>?_)|(refine gBp rfl rfl ?_;simp only[Td];first|(simp;omega)|omega))
def GBq(p:Prop)(ts:Lw):Prop:= ∃b,ts=[.one (.t (.val (.bool b)))]/\(b=false->p)
def gBq{P:Program}{rs:List ResultVar}{tm:TS}{hp:HS}{t:Nat}{b:Bool}{p:Prop}(J:rs=[.tmp t])(h:find tm t=some (bV b))(hp2:b=false->p): ∃us ts,bg P hp tm rs=some us/\bB (bM hp) us=some ts/\GBq p ts:=g1 J h ⟨b,rfl,hp2⟩
def aEv(f:Nat):Prop:= ∀s, ∃Z,Fn Tryz.prog f [lH s] [] (aR Z) []/\(aR Z).cR=true/\ZC (¬Td s) Z
abbrev fV(f:Nat):W:= .one (.t (.val (.func (.func f) #[] #[])))
def QN(xs:Lz)(m:Nat)(vs:List V):Prop:= ∃i:Nat,i<=xs.length/\(∀j e,j < i->xs[j]? =some e->InE e)/\m=xs.length - i/\vs=[iV .i64 (i:Int)]
variable{xs:Lz}{b j:Nat}{c:C}{cs:Lc}{x:Int}
def QN.succ{i:Nat}{a b:Int}(h:i < xs.length)(D:xs.length<=1000000)(w:∀j e,j < i->xs[j]? =some e->InE e)(S:xs[((i:Int)).toNat]? =some [tI a,tI b])(I:Td (a,b)):
 QN xs (xs.length - (i+1)) [iV .i64 (IntKind.i64.wrap ((i:Int)+1))]:=by
 refine⟨i+1,h,λj e Q H=>?_,rfl,by rw[aB aa aa];rfl⟩
 by_cases v:j=i
 . subst v;rw[show((j:Int)).toNat=j by omega]at S;rw[S]at H;exact⟨a,b,(aa5 H).symm,I⟩
 . exact w j e aa H
def atG{i:Nat}(h:∀j e,j < i->xs[j]? =some e->InE e)(I:xs.length<=i):∀e,e∈xs->InE e:=by
 intro e H;obtain⟨j,Q,rfl⟩:=aa3 H;exact h j _ aa Fc
def Z2{f:FuncId}{us:Lw}{hp:HS}{ctr:Nat}{K:V->HS->Nat->Prop}{Good:Lw->Prop}(G:enters Tryz.prog f=true)(L:wm us=true)(h: ∃ts,Fn Tryz.prog f us [] (aR ts) []/\(aR ts).cR=true/\Good ts)
 (Z:∀ts,Good ts->K (aR ts) hp (ctr+4)):enters Tryz.prog f=true/\ ∃v hp' c',dI Tryz.prog f us hp ctr v hp' c'/\K v hp' c':=⟨G,aD L h Z⟩
def qJ(f:Nat)(N:enters Tryz.prog f=true)(R:aEv f)(xs:Lz)(hx:cO xs)(U:xs.length<=1000000):Tg 188 [oL 2 xs,fV f] (oq (λn=> -1<=n/\(n < 0-> ∀e,e∈xs->InE e))):=by
 refine aC Tryz.func188 ?_
 repeat' ((conv=>whnf);first|refine bZz (λh=>?_) (λh=>?_)|refine And.intro N ?_|(refine aG hx aj aq ?_;rintro _ ⟨a,b,rfl⟩ S)|(refine aD rfl (R (_,_)) ?_;rintro _ ⟨b,rfl,G⟩)|(refine jX rfl rfl ⟨aa,λh=>?_⟩;first|omega|exact atG w aa)|(apply aV [0,1,7,8] [] [8] (QN xs) (xs.length) [iV .i64 0];(iterate 3 exact ae);exact⟨0,aa,λj e Q=>by omega,rfl,rfl⟩;rintro _ _ ⟨i,I,w,rfl,rfl⟩)|(refine aI [0,1,7,8] [] ?_;(conv=>whnf);exact⟨rfl,_,[_],QN.succ aa U w S Vn,rfl,rfl,rfl,aa⟩))
def fq(f:Nat)(G:enters Tryz.prog f=true)(R:aEv f)(xs:Lz)(hx:cO xs)(U:xs.length<=1000000):Tg 140 [oL 2 xs,fV f] (GBq (∀e,e∈xs->InE e)):=by
 refine aC Tryz.func140 ?_
 repeat' ((conv=>whnf);first|(refine aD rfl (qJ f G R xs hx U) ?_;rintro _ ⟨n,rfl,K⟩)|exact gBq rfl rfl (λh=>K.2 bc))
def akY:enters Tryz.prog 141=true:=ag
def aDZ:enters Tryz.prog 253=true:=ag
def X2(xs:Lz):Prop:=3<=xs.length/\xs.length<=40/\ ∀e,e∈xs->InE e
def gX(xs:Lz):Prop:=2<=xs.length/\xs.length<=40/\ ∀e,e∈xs->InE e
def Eg(xs:Lz)(hx:cO xs)(U:xs.length<=1000000):Tg 103 [oL 2 xs] (oq (λn=>n=0->X2 xs)):=by
 refine aC Tryz.func103 ?_
 repeat' ((conv=>whnf);first|refine bZz (λh=>?_) (λh=>?_)|(refine aD rfl (fq _ akY Fu xs hx U) ?_;rintro _ ⟨c,rfl,D⟩)|(refine aD rfl (Cx xs hx U) ?_;rintro _ ⟨d,rfl⟩)|(refine jX rfl rfl (λz=>?_);first|(exfalso;omega)|exact⟨aa,aa,D Vn⟩))
def uK(xs:Lz)(hx:cO xs)(U:xs.length<=1000000):Tg 175 [oL 2 xs] GI:=by
 refine aC Tryz.func175 ?_
 repeat' ((conv=>whnf);first|refine bG (λh=>?_) (λh=>?_)|(refine aD rfl (Eg xs hx U) ?_;rintro _ ⟨c,rfl,D⟩)|(refine aD rfl (wY xs hx U) ?_;rintro _ ⟨d,rfl⟩)|exact gI rfl rfl)
def Cw(xs:Lz)(hx:cO xs)(U:xs.length<=1000000):Tg 216 [oL 2 xs] (oq (λn=>n=0->gX xs)):=by
 have M:=aB (n:=(xs.length:Int) - 1) aa aa;refine aC Tryz.func216 ?_
 repeat' ((conv=>whnf);first|refine bZz (λh=>?_) (λh=>?_)|(refine aG hx aj aq ?_;rintro _ ⟨a,b,rfl⟩ S)|refine And.intro ag ?_|(refine aD rfl (fq _ aDZ RH xs hx U) ?_;rintro _ ⟨c,rfl,D⟩)|(refine jX rfl rfl (λz=>?_);first|(exfalso;omega)|exact⟨aa,aa,D Vn⟩)|(apply aV [0,14,15] [] [15] (RI (xs.length - 1)) (xs.length - 1) [iV .i64 0];(iterate 3 exact ae);exact RI.zero;rintro _ _ ⟨i,I,rfl,rfl⟩)|(refine aI [0,14,15] [] ?_;(conv=>whnf);exact⟨rfl,_,[_],RI.succ (N:=xs.length - 1) (i:=i) aa bq,rfl,rfl,rfl,aa⟩))
def aSp:lc Tryz.prog 175=some true:=ag
def zSp:dc Tryz.prog 175=some 2:=ag
def aTu:lc Tryz.prog 174=some true:=ag
def zTu:dc Tryz.prog 174=some 2:=ag
def aRp:lc Tryz.prog 32=some true:=ag
def zRp:dc Tryz.prog 32=some 2:=ag
def GSp(p:Sp->Prop)(ts:Lw):Prop:= ∃a b,ts=[lH (a,b)]/\p (a,b)
abbrev oTu(f:Bool)(q:Int):W:= .agg [.t (tB f),.t (tI q)]
def GTu(p:Bool->Int->Prop)(ts:Lw):Prop:= ∃f q,ts=[oTu f q]/\p f q
def gSp{rs:List ResultVar}{tm:TS}{hp:HS}{y:Int}{p:Sp->Prop}(J:rs=[.cell b 175])(h:find tm b=some (.w (.one c)))(S:deref hp c=some (cs,j))(U:j+2<=cs.length)(a:(cs.drop j).take 2=[.t (tI x),.t (tI y)])(hg:p (x,y)):
 ∃us ts,bg Tryz.prog hp tm rs=some us/\bB (bM hp) us=some ts/\GSp p ts:=gC J aSp zSp h S U (ts:=[tI x,tI y]) (by rw[a];rfl) ⟨x,y,rfl,hg⟩
def gRp{rs:List ResultVar}{tm:TS}{hp:HS}{y:Int}{p:Sp->Prop}(J:rs=[.cell b 32])(h:find tm b=some (.w (.one c)))(S:deref hp c=some (cs,j))(U:j+2<=cs.length)(a:(cs.drop j).take 2=[.t (tI x),.t (tI y)])(hg:p (x,y)):
 ∃us ts,bg Tryz.prog hp tm rs=some us/\bB (bM hp) us=some ts/\GSp p ts:=gC J aRp zRp h S U (ts:=[tI x,tI y]) (by rw[a];rfl) ⟨x,y,rfl,hg⟩
def gTu{rs:List ResultVar}{tm:TS}{hp:HS}{f:Bool}{q:Int}{p:Bool->Int->Prop}(J:rs=[.cell b 174])(h:find tm b=some (.w (.one c)))(S:deref hp c=some (cs,j))(U:j+2<=cs.length)(a:(cs.drop j).take 2=[.t (tB f),.t (tI q)])(hg:p f q):
 ∃us ts,bg Tryz.prog hp tm rs=some us/\bB (bM hp) us=some ts/\GTu p ts:=gC J aTu zTu h S U (ts:=[tB f,tI q]) (by rw[a];rfl) ⟨f,q,rfl,hg⟩
def Q2(f:Bool)(q:Int):Tg 231 [oTu f q] (GTu (λ_ _=>True)):=by
 refine aC Tryz.func231 ?_
 repeat' ((conv=>whnf);first|exact gTu rfl rfl rfl ak rfl trivial)
def GA(g:Int)(m f:Bool)(q:Int):Tg 185 [oI g,.one (.t (tB m)),oTu f q] GB:=by
 refine aC Tryz.func185 ?_
 repeat' ((conv=>whnf);first|refine bZz (λh=>?_) (λh=>?_)|(refine aD rfl (Q2 _ _) ?_;rintro _ ⟨f,q,rfl,_⟩)|exact gB rfl rfl)
def D4(n:Int):Tg 307 [oI n] (oq (λr=>0<=r/\r<=1048576)):=by
 refine aC Tryz.func307 ?_
 repeat' ((conv=>whnf);first|refine aJ (λh=>?_) (λh=>?_)|exact jX rfl rfl aa)
def Ca(n:Int):Tg 294 [oI n] (oq (λr=> -1048576<=r/\r<=1048576)):=by
 refine aC Tryz.func294 ?_
 repeat' ((conv=>whnf);first|(refine jX rfl rfl ?_;(repeat' split)<;>omega))
def D5(n p:Int)(hp:0<=p):Tg 293 [oI n,oI p] GI:=by
 refine aC Tryz.func293 ?_
 repeat' ((conv=>whnf);first|refine aJ (λh=>?_) (λh=>?_)|refine And.intro aa ?_|exact gI rfl rfl)
def Jq(r:Sp):Tg 292 [lH r] (GSp (λr=>0<=r.1/\0<=r.2)):=by
 refine aC Tryz.func292 ?_
 repeat' ((conv=>whnf);first|refine And.intro ag ?_|(refine aN rfl (D4 _) ?_;rintro _ ⟨n,rfl,O,Y⟩)|exact gRp rfl rfl rfl ak rfl ⟨by simp only;omega,by simp only;omega⟩)
def GO(r a:Sp):Tg 265 [lH r,lH a] (GSp (λ_=>True)):=by
 refine aC Tryz.func265 ?_
 repeat' ((conv=>whnf);first|refine And.intro ag ?_|(refine aD rfl (Jq (_,_)) ?_;rintro _ ⟨x,y,rfl,O,Y⟩)|(refine aN rfl (Ca _) ?_;rintro _ ⟨n,rfl,_⟩)|(refine aN rfl (D5 _ _ (by simp only at *;omega)) ?_;rintro _ ⟨n,rfl⟩)|exact gSp rfl rfl rfl ak rfl trivial)
def Jp(r a b:Sp):Tg 232 [lH r,lH a,lH b] GB:=by
 refine aC Tryz.func232 ?_
 repeat' ((conv=>whnf);first|refine And.intro ag ?_|(refine aN rfl (GO (_,_) (_,_)) ?_;rintro _ ⟨x,y,rfl,_⟩)|exact gB rfl rfl)
def wZ(s:Sp):Tg 102 [lH s] (ZC (¬Td s)):=by
 refine aC Tryz.func102 ?_
 repeat' ((conv=>whnf);first|refine aJ (λh=>?_) (λh=>?_)|(refine gBp rfl rfl ?_;simp only[Td];first|(simp;omega)|omega))
def vc(a b:Sp):Tg 171 [lH a,lH b] (GSp (λ_=>True)):=by
 refine aC Tryz.func171 ?_
 repeat' ((conv=>whnf);first|exact gSp rfl rfl rfl ak rfl trivial)
def qz(s:Sp)(b:Int):Tg 173 [lH s,oI b] GB:=by
 refine aC Tryz.func173 ?_
 repeat' ((conv=>whnf);first|refine aJ (λh=>?_) (λh=>?_)|exact gB rfl rfl)
def H6(n b:Int):Tg 164 [oI n,oI b] (ZC (IntKind.i64.wrap (0 - b)<=n/\n<=b)):=by
 refine aC Tryz.func164 ?_
 repeat' ((conv=>whnf);first|refine aJ (λh=>?_) (λh=>?_)|(refine gBp rfl rfl ?_;constructor<;>intro d<;>first|exact⟨h,of_decide_eq_true d⟩|exact decide_eq_true d.2|exact absurd d.1 h|exact absurd d ak))
def kC(a b c:Sp):Tg 203 [lH a,lH b,lH c] GI:=by
 refine aC Tryz.func203 ?_
 repeat' ((conv=>whnf);first|exact gI rfl rfl)
def yM(s:Sp):Tg 244 [lH s] GB:=by
 refine aC Tryz.func244 ?_
 repeat' ((conv=>whnf);first|refine aJ (λh=>?_) (λh=>?_)|exact gB rfl rfl)
abbrev OM(q:Int):Int:=IntKind.i64.wrap ((BitVec.ofInt IntKind.i64.bits q&&& BitVec.ofInt IntKind.i64.bits 3).toNat:Int)
def qH(f:Bool)(q:Int)(s:Sp):Tg 144 [oTu f q,lH s] (GSp (λ_=>True)):=by
 have d:=zR ((BitVec.ofInt IntKind.i64.bits q&&& BitVec.ofInt IntKind.i64.bits 3).toNat:Int);have l:OM q=IntKind.i64.wrap ((BitVec.ofInt IntKind.i64.bits q&&& BitVec.ofInt IntKind.i64.bits 3).toNat:Int):=rfl;refine aC Tryz.func144 ?_
 repeat' ((conv=>whnf);first|refine bZz (λh=>?_) (λh=>?_)|exact gSp rfl rfl rfl ak rfl trivial|(apply gh [3,4,13,14] [] [14] (λm o d=> ∃ (i:Nat) (a b:Int),i<=(OM q).toNat/\m=(OM q).toNat - i/\o=[iV .i64 (i:Int)]/\d=[(4,.row 2 [[.t (tI a),.t (tI b)]]),(8,.row 2 [[.t (tI 0),.t (tI 0)]])]) ((OM q).toNat) [iV .i64 0];(iterate 3 exact ae);exact⟨0,_,_,aa,rfl,rfl,rfl⟩;rintro _ _ _ ⟨i,a,b,I,rfl,rfl,rfl⟩)|(refine aI [3,4,13,14] [] ?_;(conv=>whnf);exact⟨rfl,_,[_],⟨i+1,_,_,aa,rfl,by rw[aB (n:=(i:Int)+1) aa aa];rfl,rfl⟩,rfl,rfl,aa⟩))
def Ef(xs:Lz)(d:Sp)(hx:cO xs)(U:xs.length<=1000000):Tg 143 [oL 2 xs,lH d] (GL 2 (λys=>ys.length=xs.length/\cO ys)):=by
 refine aC Tryz.func143 ?_
 repeat' ((conv=>whnf);first|refine aJ (λh=>?_) (λh=>?_)|refine And.intro ⟨aa,aa,aa,aa⟩ ?_|refine And.intro ⟨aa,aa⟩ ?_|(refine aG hx aj aq ?_;rintro _ ⟨a,b,rfl⟩ S)|(refine N3 D aa ?_;rintro _ ⟨a,b,rfl⟩ S)|exact gL rfl rfl rfl aa D (λys O Y=>⟨aa,Y⟩)|(apply gh [3,5,11,12,13] [] [13] (λm o s=> ∃ (i:Nat) (v:Lq),i<=xs.length/\m=xs.length - i/\o=[iV .i64 (i:Int)]/\s=[(4,.row 2 [[.t (tI d.1),.t (tI d.2)]]),(8,.row 2 v)]/\v.length=xs.length/\pI aiL v) (xs.length) [iV .i64 0];(iterate 3 exact ae);exact⟨0,_,aa,rfl,rfl,rfl,ak,(pI.replicate (e:=[tI 0,tI 0]) ⟨0,0,rfl⟩).aM _⟩;rintro _ _ _ ⟨i,v,I,rfl,rfl,rfl,z,D⟩)|(refine aI [3,5,11,12,13] [] ?_;(conv=>whnf);exact⟨rfl,_,[_],⟨i+1,_,aa,rfl,by rw[aB (n:=(i:Int)+1) aa aa];rfl,rfl,by simp[z],(D.set (e:=[_,_]) ⟨_,_,rfl⟩).aM _⟩,rfl,rfl,aa⟩))
def G9(xs:Lz)(d:Sp)(hx:cO xs)(U:xs.length<=1000000):Tg 104 [oL 2 xs,lH d] (GL 2 (λys=>ys.length=xs.length/\cO ys)):=by
 refine aC Tryz.func104 ?_
 repeat' ((conv=>whnf);first|(refine aD rfl (Ef xs (_,_) hx U) ?_;rintro _ ⟨ys,rfl,O,Y⟩)|exact gLt rfl rfl ⟨O,Y⟩)
def yK(f:Bool)(q:Int)(xs:Lz)(hx:cO xs)(U:xs.length<=1000000):Tg 105 [oTu f q,oL 2 xs] (GL 2 (λys=>ys.length=xs.length/\cO ys)):=by
 have N:=aB (n:=(xs.length:Int) - 1) aa aa;refine aC Tryz.func105 ?_
 repeat' ((conv=>whnf);first|refine bZz (λh=>?_) (λh=>?_)|refine And.intro ⟨aa,aa,aa,aa⟩ ?_|refine And.intro ⟨by first|omega|(rw[N,aB (n:=(xs.length:Int) - 1 - (i:Int)) aa aa];omega),by first|omega|(rw[N,aB (n:=(xs.length:Int) - 1 - (i:Int)) aa aa];omega)⟩ ?_|(refine aG hx aj aq ?_;rintro _ ⟨a,b,rfl⟩ S)|(refine aD rfl (qH _ _ (_,_)) ?_;rintro _ ⟨x,y,rfl,_⟩)|(refine N3 D aa ?_;rintro _ ⟨a,b,rfl⟩ S)|(refine N3 D (by rw[N,aB (n:=(xs.length:Int) - 1 - (i:Int)) aa aa];omega) ?_;rintro _ ⟨a,b,rfl⟩ S)|exact gL rfl rfl rfl aa D (λys O Y=>⟨aa,Y⟩)|(apply gh [1,2,5,11,12,13] [] [13] (λm o d=> ∃ (i:Nat) (v:Lq),i<=xs.length/\m=xs.length - i/\o=[iV .i64 (i:Int)]/\d=[(4,.row 2 [[.t (tB f),.t (tI q)]]),(8,.row 2 v)]/\v.length=xs.length/\pI aiL v) (xs.length) [iV .i64 0];(iterate 3 exact ae);exact⟨0,_,aa,rfl,rfl,rfl,ak,(pI.replicate (e:=[tI 0,tI 0]) ⟨0,0,rfl⟩).aM _⟩;rintro _ _ _ ⟨i,v,I,rfl,rfl,rfl,z,D⟩)|(refine aI [1,2,5,11,12,13] [] ?_;(conv=>whnf);exact⟨rfl,_,[_],⟨i+1,_,aa,rfl,by rw[aB (n:=(i:Int)+1) aa aa];rfl,rfl,by simp[z],(D.set (e:=[_,_]) ⟨_,_,rfl⟩).aM _⟩,rfl,rfl,aa⟩))
def C9(a b:Int)(w:0<=a)(G:0 < b)(o:b<=1000000000000):Tg 218 [oI a,oI b] GI:=by
 refine aC Tryz.func218 ?_
 repeat' ((conv=>whnf);first|refine aJ (λh=>?_) (λh=>?_)|refine And.intro nD ?_|exact gI rfl rfl|(exfalso;omega))
def uU(a b:Int)(w: -1000000000000000<=a)(G:0 < b)(o:b<=1000000000000):Tg 218 [oI a,oI b] GI:=by
 refine aC Tryz.func218 ?_
 repeat' ((conv=>whnf);first|refine aJ (λh=>?_) (λh=>?_)|refine And.intro nD ?_|(refine aD rfl (C9 (IntKind.i64.wrap (0 - a)) b YM G o) ?_;rintro _ ⟨n,rfl⟩)|exact gI rfl rfl)
def wl(a b:Int)(w:0<=a)(G:0 < b)(o:b<=1000000000000):Tg 220 [oI a,oI b] GI:=by
 refine aC Tryz.func220 ?_
 repeat' ((conv=>whnf);first|refine aJ (λh=>?_) (λh=>?_)|refine And.intro nD ?_|exact gI rfl rfl|(exfalso;omega))
def oR(a b:Int)(w: -1000000000000000<=a)(G:0 < b)(o:b<=1000000000000):Tg 220 [oI a,oI b] GI:=by
 refine aC Tryz.func220 ?_
 repeat' ((conv=>whnf);first|refine aJ (λh=>?_) (λh=>?_)|refine And.intro nD ?_|(refine aD rfl (wl (IntKind.i64.wrap (0 - a)) b YM G o) ?_;rintro _ ⟨n,rfl⟩)|exact gI rfl rfl)
abbrev oS(s:ByteArray):W:= .one (.t (.val (.string s)))
abbrev oU8(n:Int):W:= .one (.t (.val (.int .u8 n)))
def uL(xs ys:Lz)(hx:cO xs)(hy:cO ys)(U:xs.length<=1000000)(r:ys.length<=1000000):Tg 207 [oL 2 xs,oL 2 ys] GI:=by
 refine aC Tryz.func207 ?_
 repeat' ((conv=>whnf);first|refine aJ (λh=>?_) (λh=>?_)|(refine aG hx aj aq ?_;rintro _ ⟨a,b,rfl⟩ S)|(refine aG hy aj aq ?_;rintro _ ⟨a,b,rfl⟩ S)|refine And.intro aa ?_|(refine aD rfl (lM _ _) ?_;rintro _ ⟨n,rfl⟩)|exact gI rfl rfl|(apply aV [0,1,5,7,8,9,13,14,15,28,29,30] [] [9,30] (λm o=> ∃ (j:Nat) (s:Int),j<=ys.length/\m=ys.length - j/\o=[iV .i64 s,iV .i64 j]) (ys.length) [iV .i64 (-1),iV .i64 0];(iterate 3 exact ae);exact⟨0, -1,aa,rfl,rfl⟩;rintro _ _ ⟨j,L,Q,rfl,rfl⟩)|(refine aI [0,1,5,7,8,9,13,14,15,28,29,30] [] ?_;(conv=>whnf);exact⟨rfl,_,[_,_],⟨j+1,_,aa,rfl,by rw[aB (n:=(j:Int)+1) aa aa];rfl⟩,rfl,rfl,rfl,aa⟩)|(apply aV [0,1,5,13,14,15] [] [5,15] (λm o=> ∃ (i:Nat) (s:Int),i<=xs.length/\m=xs.length - i/\o=[iV .i64 s,iV .i64 i]) (xs.length) [iV .i64 1,iV .i64 0];(iterate 3 exact ae);exact⟨0,1,aa,rfl,rfl⟩;rintro _ _ ⟨i,s,I,rfl,rfl⟩)|(refine aI [0,1,5,13,14,15] [] ?_;(conv=>whnf);exact⟨rfl,_,[_,_],⟨i+1,_,aa,rfl,by rw[aB (n:=(i:Int)+1) aa aa];rfl⟩,rfl,rfl,rfl,aa⟩))
def rD(xs ys:Lz)(hx:cO xs)(hy:cO ys)(U:xs.length<=1000000)(r:ys.length<=1000000):Tg 152 [oL 2 xs,oL 2 ys] GI:=by
 refine aC Tryz.func152 ?_
 repeat' ((conv=>whnf);first|(refine aD rfl (uL xs ys hx hy U r) ?_;rintro _ ⟨n,rfl⟩)|(refine aD rfl (uL ys xs hy hx r U) ?_;rintro _ ⟨n,rfl⟩)|exact gI rfl rfl)
def Bd(c:Int):Tg 306 [oU8 c] GB:=by
 refine aC Tryz.func306 ?_
 repeat' ((conv=>whnf);first|refine aJ (λh=>?_) (λh=>?_)|exact gB rfl rfl)
def Dc(s:ByteArray)(S:s.size<=maxLen):Tg 290 [oS s] GB:=by
 refine aC Tryz.func290 ?_
 repeat' ((conv=>whnf);first|refine bZz (λh=>?_) (λh=>?_)|(refine jF aa aa ?_;intro a)|(refine aD rfl (Bd _) ?_;rintro _ ⟨b,rfl⟩)|exact gB rfl rfl|(apply aV [0,23,24] [] [24] (RI s.size) (s.size) [iV .i64 0];(iterate 3 exact ae);exact RI.zero;rintro _ _ ⟨i,I,rfl,rfl⟩)|(refine aI [0,23,24] [] ?_;(conv=>whnf);exact⟨rfl,_,[_],RI.succ (N:=s.size) (i:=i) aa S,rfl,rfl,rfl,aa⟩))
def Ip(s:ByteArray)(S:s.size<=maxLen):Tg 247 [oS s] GB:=by
 refine aC Tryz.func247 ?_
 repeat' ((conv=>whnf);first|refine bZz (λh=>?_) (λh=>?_)|(refine jF aa aa ?_;intro a)|exact gB rfl rfl|(apply aV [0,7,8] [] [8] (RI s.size) (s.size) [iV .i64 0];(iterate 3 exact ae);exact RI.zero;rintro _ _ ⟨i,I,rfl,rfl⟩)|(refine aI [0,7,8] [] ?_;(conv=>whnf);exact⟨rfl,_,[_],RI.succ (N:=s.size) (i:=i) aa S,rfl,rfl,rfl,aa⟩))
def yY(s:ByteArray)(S:s.size<=maxLen):Tg 161 [oS s] GB:=by
 refine aC Tryz.func161 ?_
 repeat' ((conv=>whnf);first|refine bZz (λh=>?_) (λh=>?_)|(refine jF aa aa ?_;intro a)|exact gB rfl rfl|(apply aV [0,22,23] [] [23] (RI s.size) (s.size) [iV .i64 0];(iterate 3 exact ae);exact RI.zero;rintro _ _ ⟨i,I,rfl,rfl⟩)|(refine aI [0,22,23] [] ?_;(conv=>whnf);exact⟨rfl,_,[_],RI.succ (N:=s.size) (i:=i) aa S,rfl,rfl,rfl,aa⟩))
def IsI(e:Lt):Prop:= ∃a,e=[tI a]
abbrev oU(n:Int):W:= .one (.t (.val (.int .u64 n)))
def u8w(n:Int):0<=IntKind.u8.wrap n/\IntKind.u8.wrap n < 256:=by
 simp[IntKind.wrap,IntKind.bits,IntKind.signed];omega
def AT(x:Int):Tg 95 [oU x] (oq (λn=>0<=n/\n<=64)):=by
 refine aC Tryz.func95 ?_
 repeat' ((conv=>whnf);first|refine aJ (λh=>?_) (λh=>?_)|(refine ZK (N:=256) (B:=8) ag ag (u8w _).1 (u8w _).2 ?_;intro a b)|refine And.intro aa ?_|(refine jX rfl rfl ?_;simp (disch:=omega) only[aB];omega))
def En(x:Int):Tg 61 [oU x] (oq (λn=>0<=n/\n<=64)):=by
 refine aC Tryz.func61 ?_
 repeat' ((conv=>whnf);first|(refine aD rfl (AT _) ?_;rintro _ ⟨n,rfl,O,Y⟩)|exact jX rfl rfl ⟨O,Y⟩)
def aaL(k:Nat)(h:k<=60):IntKind.i64.wrap (1 * 2 ^ (min k IntKind.i64.bits))=((2 ^ k:Nat):Int)/\1<=2 ^ k/\2 ^ k<=1152921504606846976:=by
 have O:2 ^ k<=2 ^ 60:=abi aa h;have Y:1<=2 ^ k:=Nat.one_le_two_pow;have e:min k IntKind.i64.bits=k:=by simp only[IntKind.bits];omega
 refine⟨?_,Y,rW⟩;rw[e,Int.one_mul];have o:((2:Int) ^ k)=((2 ^ k:Nat):Int):=ak
 rw[o];exact aB aa aa
def PM{a:Int}(z:0<=a)(O:a < 9223372036854775808):IntKind.i64.wrap (a.tdiv 2)=a / 2:=by
 rw[abH z,aB aa aa]
def US{n:Int}(z:0<=n)(O:1<=x):0<=n.tdiv x/\n.tdiv x<=n:=by
 rw[abH z];exact⟨aer z aa,Int.ediv_le_self _ z⟩
def anU{n:Int}(z:2<=n)(O:n<=9223372036854775806)(hx:1<=x)(c:x<=1152921504606846976):
 1<=IntKind.i64.wrap ((IntKind.i64.wrap (x+IntKind.i64.wrap (n.tdiv x))).tdiv 2):=by
 obtain⟨d,q1⟩:=US (n:=n) (x:=x) aa hx
 have q2:x=1\/n.tdiv x<=4611686018427387903:=by
  by_cases h:x=1
  . exact .inl h
  . right;rw[abH aa];have B:n / x * x<=n:=Int.ediv_mul_le _ aa;have g:0<=n / x:=aer aa aa;have U:n / x * 2<=n / x * x:=ac6 aa g;omega
 have q3:x=1->n.tdiv x=n:=λh=>by subst h;simp
 rw[aB (n:=n.tdiv x) aa aa];rw[aB (n:=x+n.tdiv x) aa (by rcases q2 with h|h<;>omega)];rw[PM aa (by rcases q2 with h|h<;>omega)];rcases q2 with h|h
 . have:=q3 h;omega
 . by_cases b:x=1
   . have:=q3 b;omega
   . omega
def GX{r:Int}(O:0<=r)(Y:r<=64):(0<=IntKind.i64.wrap ((IntKind.i64.wrap (r+1)).tdiv 2))/\1<=IntKind.i64.wrap (1 * 2 ^ (min (IntKind.i64.wrap ((IntKind.i64.wrap (r+1)).tdiv 2)).toNat IntKind.i64.bits))/\IntKind.i64.wrap (1 * 2 ^ (min (IntKind.i64.wrap ((IntKind.i64.wrap (r+1)).tdiv 2)).toNat IntKind.i64.bits))<=1152921504606846976:=by
 rw[aB (n:=r+1) aa aa,PM aa aa];obtain⟨a,b,c⟩:=aaL (((r+1) / 2).toNat) aa;rw[a];omega
def Ee(n:Int)(O:n<=9223372036854775806):Tg 287 [oI n] GI:=by
 refine aC Tryz.func287 ?_
 repeat' ((conv=>whnf);first|refine aJ (λh=>?_) (λh=>?_)|refine And.intro (GX D v).1 ?_|refine And.intro aa ?_|(refine aD rfl (En _) ?_;rintro _ ⟨r,rfl,D,v⟩)|exact gI rfl rfl|(apply aV [0,3] [] [3] (λm o=> ∃x:Int,1<=x/\x<=1152921504606846976/\m=x.toNat/\o=[iV .i64 x]) ((IntKind.i64.wrap (1 * 2 ^ (min (IntKind.i64.wrap ((IntKind.i64.wrap (r+1)).tdiv 2)).toNat IntKind.i64.bits))).toNat) [_];(iterate 3 exact ae);exact⟨_,(GX D v).2.1,(GX D v).2.2,rfl,rfl⟩;rintro _ _ ⟨x,b,c,rfl,rfl⟩)|(refine aI [0,3] [] ?_;(conv=>whnf);exact⟨rfl,_,[_],⟨_,anU aa O b c,aa,rfl,rfl⟩,rfl,rfl,rfl,aa⟩))
end Go.aW.Cd
namespace Go.aW
open Go
variable{P:Program}
abbrev dw:T:= .val (.slice none 0 0)
inductive X4:C->C->Prop
 |refl (c:C):X4 c c
 |nil (sz:Nat):X4 (.t dw) (.t (.aO sz []))
inductive dm:Lc->Lc->Prop
 |nil:dm [] []
 |cons {a b:C} {r s:Lc} (h:X4 a b) (t:dm r s):dm (a::r) (b::s)
inductive Ja:W->W->Prop
 |one {a b:C} (h:X4 a b):Ja (.one a) (.one b)
 |agg {r s:Lc} (h:dm r s):Ja (.agg r) (.agg s)
inductive mI:Lw->Lw->Prop
 |nil:mI [] []
 |cons {a b:W} {r s:Lw} (h:Ja a b) (t:mI r s):mI (a::r) (b::s)
def dm.refl:∀l:Lc,dm l l
 | []=> .nil|_::r=> .cons (.refl _) (dm.refl r)
def Ja.refl:∀u:W,Ja u u
 | .one c=> .one (.refl c)| .agg R=> .agg (dm.refl R)
def mI.refl:∀l:Lw,mI l l
 | []=> .nil|_::r=> .cons (Ja.refl _) (mI.refl r)
variable{w:World}{A:agt}{ρ:Env}
def X4.rc{a b:C}{x:Value}(h:X4 a b)(J:RC w A ρ a x):RC w A ρ b x:=by
 cases h with
 |refl=>exact J
 |nil N=>
  have g:RT w A dw x:=J;cases g;exact RT.nil
variable{r s:Lc}{a b args us:Lw}{xs ys:Lz}{Good:Lw->Prop}{rows:Lq}{id sz ty n ctr:Nat}{c:C}{rs:List ResultVar}
def dm.len(h:dm r s):r.length=s.length:=by
 induction h with
 |nil=>rfl
 |cons _ _ c=>simp[c]
def dm.get(h:dm r s):∀ {k:Nat} {b:C},s[k]? =some b-> ∃a,r[k]? =some a/\X4 a b:=by
 induction h with
 |nil=>intro k b G;simp at G
 |cons d _ A=>
  intro k c G
  cases k with
  |zero=>simp only[yq,ii]at G;subst G;exact⟨_,rfl,d⟩
  |succ k=>exact A G
def mI.len{r s:Lw}(h:mI r s):r.length=s.length:=by
 induction h with
 |nil=>rfl
 |cons _ _ c=>simp[c]
def mI.get{r s:Lw}(h:mI r s):∀ {k:Nat} {b:W},s[k]? =some b-> ∃a,r[k]? =some a/\Ja a b:=by
 induction h with
 |nil=>intro k b G;simp at G
 |cons d _ A=>
  intro k c G
  cases k with
  |zero=>simp only[yq,ii]at G;subst G;exact⟨_,rfl,d⟩
  |succ k=>exact A G
def Ja.rw{a b:W}{x:Value}(h:Ja a b)(J:RW w A ρ a x):RW w A ρ b x:=by
 cases h with
 |one h=>exact⟨h.rc J.1,J.2⟩
 |agg h=>
  obtain⟨o,O,Y,B⟩:=J;refine⟨o,O,by rw[<-h.len];exact Y,λk c y D G=>?_⟩;obtain⟨F,P,I⟩:=h.get D;exact⟨I.rc (B k F y P G).1,(B k F y P G).2⟩
def mI.rws{xs:List Value}(h:mI a b)(J:DJ w A ρ a xs):DJ w A ρ b xs:=by
 refine⟨by rw[<-h.len];exact J.1,λk u x L N=>?_⟩;obtain⟨g,c,I⟩:=h.get L;exact I.rw (J.2 k g x c N)
def mI.rv{x:Value}(h:mI a b)(J:RV w A ρ (aR a) x):RV w A ρ (aR b) x:=by
 cases h with
 |nil=>exact J
 |cons h t=>
  cases t with
  |nil=>exact h.rw J
  |cons Y t=>
   obtain⟨o,O,j,B⟩:=J;have d:=mI.cons h (mI.cons Y t);refine⟨o,O,by rw[<-d.len];exact j,λk u y L G=>?_⟩;obtain⟨g,c,I⟩:=d.get L;exact I.rw (B k g y c G)
def Fn.L3{f:FuncId}{ts:Lw}{z D:HS}(h:Fn P f args z (aR ts) D)(L:mI b args)(J:mI ts a):Fn P f b z (aR a) D:=by
 intro w A ρ o F N;refine(h w A ρ o F (L.rws N)).mono ?_;rintro e j ⟨x,l,s,c,O,Y,B⟩;exact⟨x,l,s,c,O,J.rv Y,B⟩
def X4.cR{a b:C}(h:X4 a b)(L:a.cR=true):b.cR=true:=by
 cases h with
 |refl=>exact L
 |nil=>rfl
def dm.cR{a b:Lc}(h:dm a b)(L:a.all C.cR=true):b.all C.cR=true:=by
 induction h with
 |nil=>rfl
 |cons d _ c=>
  simp only[adw,LD]at L⊢;exact⟨d.cR L.1,c L.2⟩
def Ja.cR{a b:W}(h:Ja a b)(L:a.cR=true):b.cR=true:=by
 cases h with
 |one h=>exact h.cR L
 |agg h=>exact h.cR L
def mI.cR{a b:Lw}(h:mI a b)(L:a.all W.cR=true):b.all W.cR=true:=by
 induction h with
 |nil=>rfl
 |cons d _ c=>
  simp only[adw,LD]at L⊢;exact⟨d.cR L.1,c L.2⟩
def Wk(Good:Lw->Prop)(ts:Lw):Prop:= ∃a,mI ts a/\ts.all W.cR=true/\Good a
def aS{f:FuncId}(h: ∃ts,Fn P f args [] (aR ts) []/\(aR ts).cR=true/\Wk Good ts): ∃ts,Fn P f args [] (aR ts) []/\(aR ts).cR=true/\Good ts:=by
 obtain⟨ts,O,_,a,B,g,U⟩:=h;exact⟨a,O.L3 (mI.refl _) B,wU (B.cR g),U⟩
def PW{f:FuncId}(h: ∃ts,Fn P f args [] (aR ts) []/\(aR ts).cR=true/\Good ts)(w:mI b args): ∃ts,Fn P f b [] (aR ts) []/\(aR ts).cR=true/\Good ts:=by
 obtain⟨ts,O,Y,B⟩:=h;exact⟨ts,O.L3 w (mI.refl _),Y,B⟩
def tr(xs:Lz):Lq:=xs.map λe=>e.map .t
def aL(rows:Lq)(xs:Lz):Prop:=rows=tr xs
def gk(xs:Lz)(f:Nat->Option Nat):(tr xs).map (λe=>e.map (C.aM f))=tr xs:=by
 unfold tr;rw[acm];apply abr;intro e _;exact HD e f
def T5(xs:Lz)(n:Nat):(tr xs).map (λe=>e.map (C.up n))=tr xs:=by
 unfold tr;rw[acm];apply abr;intro e _;simp only[Function.comp,acm];rfl
def aL.aM{rows:Lq}{xs:Lz}(h:aL rows xs)(f:Nat->Option Nat):aL (rows.map λe=>e.map (C.aM f)) xs:=by
 unfold aL at h⊢;rw[h,gk]
def aL.set{rows:Lq}{xs:Lz}(h:aL rows xs)(i:Nat)(e:Lt):aL (rows.set i (e.map .t)) (xs.set i e):=by
 unfold aL at h⊢;rw[h];unfold tr;rw[afe]
def aL.snoc(h:aL rows xs)(e:Lt):aL (rows++[e.map .t]) (xs++[e]):=by
 unfold aL at h⊢;rw[h];unfold tr;simp
def aL.ya(h:aL rows xs)(ys:Lz):aL (rows++tr ys) (xs++ys):=by
 unfold aL at h⊢;rw[h];unfold tr;simp
def aL.replicate(n:Nat)(e:Lt):aL (List.replicate n (e.map .t)) (List.replicate n e):=by
 unfold aL tr;simp
def aL.nil:aL [] []:=rfl
def aL.len(h:aL rows xs):rows.length=xs.length:=by
 rw[h];simp[tr]
def cu{Pd:Lt->Prop}{i:Nat}{K:Lc->Prop}(h:aL rows xs)(hx:∀e,e∈xs->Pd e)(I:i < xs.length)(Z:∀e,Pd e->xs[i]? =some e->K (e.map .t)):mP rows i K:=by
 have H:xs[i]? =some xs[i]:=afx
 have:rows[i]? =some (xs[i].map .t):=by rw[h];simp[tr,I]
 simp only[mP,this];exact Z _ (hx _ (aaC I)) H
def mF{hp:HS}{d:Nat}:∀ (xs:Lz),bB (bB (cA d hp)) (tr xs)=some xs
 | []=>rfl
 |e::xs=>by
  have b:∀e:Lt,bB (cA d hp) (e.map .t)=some e:=by
   intro e
   induction e with
   |nil=>rfl
   |cons x e c=>
    have:cA d hp (.t x)=some x:=by cases d<;>rfl
    simp only[aaq,bB,this,c]
  have:=mF (hp:=hp) (d:=d) xs;unfold tr at this⊢;simp only[aaq,bB,b,this]
def o5(xs:Lz)(i len:Nat):((tr xs).drop i).take len=tr ((xs.drop i).take len):=by
 unfold tr;simp
def kO{hp:HS}{i len:Nat}(R:find hp id=some (.row sz rows))(M:aL rows xs)(U:i+len<=xs.length):
 bM hp (.one (.own id sz i len))=some (.one (.t (.aO sz ((xs.drop i).take len)))):=by
 have I:i+len<=rows.length:=by rw[M.len];exact U
 have:cA 6 hp (.own id sz i len)=some (.aO sz ((xs.drop i).take len)):=by
  simp only[cA,R,true_and,I,if_true];rw[M,o5,mF];rfl
 simp only[bM,this,wv]
def Rs(P:Program)(hp:HS)(tm:TS)(r:ResultVar)(u:W):Prop:= ∃a b,de P hp tm r=some a/\bM hp a=some b/\Ja b u
def cv{hp:HS}{tm:TS}{t:Nat}{x:T}(h:find tm t=some (.w (.one (.t x)))):Rs P hp tm (.tmp t) (.one (.t x)):=
 ⟨.one (.t x),.one (.t x),by simp only[de,h],rfl,Ja.refl _⟩
def dy{hp:HS}{tm:TS}{t:Nat}(sz:Nat)(h:find tm t=some (.w (.one (.t dw)))):Rs P hp tm (.tmp t) (.one (.t (.aO sz []))):=
 ⟨.one (.t dw),.one (.t dw),by simp only[de,h],rfl,.one (.nil sz)⟩
def df{hp:HS}{tm:TS}{t i len:Nat}(h:find tm t=some (.w (.one (.own id sz i len))))(R:find hp id=some (.row sz rows))(M:aL rows xs)(U:i+len<=xs.length):Rs P hp tm (.tmp t) (.one (.t (.aO sz ((xs.drop i).take len)))):=
 ⟨.one (.own id sz i len),_,by simp only[de,h],kO R M U,Ja.refl _⟩
def cc{tm:TS}{hp:HS}{b:Nat}{cs:Lc}{j:Nat}{ts:Lt}{ds:Lc}(w:lc P ty=some true)(A:dc P ty=some n)
 (h:find tm b=some (.w (.one c))) (S:deref hp c=some (cs,j)) (U:j+n<=cs.length) (a:bB (cA 6 hp) ((cs.drop j).take n)=some ts) (I:dm (ts.map .t) ds):Rs P hp tm (.cell b ty) (.agg ds):=by
 refine⟨.agg ((cs.drop j).take n),.agg (ts.map .t),?_,?_,.agg I⟩
 . simp only[de,h,gA,S,nN,w,A,if_pos U,wv]
 . simp only[bM,a,wv]
def nt{hp:HS}{tm:TS}{y:ResultVar}{A:W}(J:rs=[y])(O:Rs P hp tm y A)(hg:Good [A]):
 ∃us ts,bg P hp tm rs=some us/\bB (bM hp) us=some ts/\Wk Good ts:=by
 subst J;obtain⟨a,b,H,o,G⟩:=O;exact⟨[a],[b],by simp only[bg,H],by simp only[bB,o],[A],.cons G .nil,by simp[jw o],hg⟩
def eL{hp:HS}{tm:TS}{y B:ResultVar}{A w:W}(J:rs=[y,B])(O:Rs P hp tm y A)(Y:Rs P hp tm B w)(hg:Good [A,w]):
 ∃us ts,bg P hp tm rs=some us/\bB (bM hp) us=some ts/\Wk Good ts:=by
 subst J;obtain⟨a,b,H,o,G⟩:=O;obtain⟨c,d,s,v,z⟩:=Y;exact⟨[a,c],[b,d],by simp only[bg,H,s],by simp only[bB,o,v],[A,w],.cons G (.cons z .nil),by simp[jw o,jw v],hg⟩
def H9{hp:HS}{tm:TS}{y U K:ResultVar}{A w g:W}(J:rs=[y,U,K])(O:Rs P hp tm y A)(Y:Rs P hp tm U w)(B:Rs P hp tm K g)(hg:Good [A,w,g]):
 ∃us ts,bg P hp tm rs=some us/\bB (bM hp) us=some ts/\Wk Good ts:=by
 subst J;obtain⟨a,b,H,o,G⟩:=O;obtain⟨c,d,s,v,z⟩:=Y;obtain⟨F,l,M,L,N⟩:=B;exact⟨[a,c,F],[b,d,l],by simp only[bg,H,s,M],by simp only[bB,o,v,L],[A,w,g],.cons G (.cons z (.cons N .nil)),by simp[jw o,jw v,jw L],hg⟩
def GN(sz:Nat)(p:Lz->Prop)(ts:Lw)(N:HS):Prop:= ∃o,ts=[.one (.own 0 sz 0 o.length)]/\N=[(0,.row sz (tr o))]/\p o
def gN{hp:HS}{tm:TS}{t len:Nat}{p:Lz->Prop}(J:rs=[.tmp t])(h:find tm t=some (.w (.one (.own id sz 0 len))))(R:find hp id=some (.row sz rows))(M:aL rows xs)(U:len=xs.length)(hg:p xs):
 ∃us ids,bg P hp tm rs=some us/\(ids.length<=4/\ids.Nodup)/\GN sz p (us.map (W.aM (bI ids))) (cG (bI ids) hp 0 ids):=by
 subst J;subst U;refine⟨[.one (.own id sz 0 xs.length)],[id],by simp only[bg,de,h],⟨ak,ak⟩,xs,?_,?_,hg⟩
 . simp[W.aM,C.aM,bI]
 . simp only[cG,R,bE.aM];rw[M,gk]
def LX{f:FuncId}{hp:HS}{K:V->HS->Prop}{p:Lz->Prop}(L:wm us=true)(h: ∃ts N,yw P f us (aR ts) N/\GN sz p ts N)
 (Z:∀xs,p xs->K (.w (.one (.own (0+ctr) sz 0 xs.length))) ((0+ctr,.row sz (tr xs))::hp)): ∃v hp',gY P hp ctr f us v hp'/\K v hp':=by
 obtain⟨ts,N,O,xs,rfl,rfl,Y⟩:=h;refine⟨_,_,Dx L O,?_⟩;have:=Z xs Y;simp only[aR,V.up,W.up,C.up,gK,bE.up,ae7,if_true,T5]at this⊢;exact this
def N4{f:FuncId}{hp:HS}{K:V->HS->Nat->Prop}{p:Lz->Prop}(L:wm us=true)(h: ∃ts N,yw P f us (aR ts) N/\GN sz p ts N)
 (Z:∀xs,p xs->K (.w (.one (.own (0+ctr) sz 0 xs.length))) ((0+ctr,.row sz (tr xs))::hp) (ctr+4)): ∃v hp' c',dI P f us hp ctr v hp' c'/\K v hp' c':=by
 obtain⟨v,hp',O,Y⟩:=LX (hp:=hp) (ctr:=ctr) (K:=λv hp'=>K v hp' (ctr+4)) L h Z;exact⟨v,hp',ctr+4,j7 O,Y⟩
def apP{hp:HS}(h:find hp 0=some (.row sz (tr ys))):od [(0,.row sz (tr xs))] hp [(0,.row sz (tr ys))]:=by
 refine⟨λk b Z=>?_,λk L Z=>?_⟩
 . simp only[find]at Z;split at Z
   . rename_i e;subst e;exact⟨aa,_,h⟩
   . simp at Z
 . simp only[find]at Z;split at Z
   . rename_i e;subst e;simp only[ii]at Z;subst Z;refine⟨h,rfl,λe H c D=>?_⟩;simp only[tr,aad]at H;obtain⟨J,_,rfl⟩:=H;simp only[aad]at D;obtain⟨F,_,rfl⟩:=D;rfl
   . simp at Z
def TK{f:FuncId}{hp:HS}{K:V->HS->Prop}{Good:Lw->HS->Prop}(a:(us.flatMap W.ids).head? =some id)(R:find hp id=some (.row sz rows))(h: ∃ts N,Fn P f args [(0,.row sz (tr xs))] (aR ts) N/\N=[(0,.row sz (tr xs))]/\Good ts N)
 (w:us.map (W.aM (bI [id]))=args) (M:aL rows xs)
 (Z:∀ts,Good ts [(0,.row sz (tr xs))]->K ((aR ts).aM (λj=>[id][j]?)) hp): ∃v hp',gY P hp ctr f us v hp'/\K v hp':=by
 obtain⟨ts,N,O,rfl,Y⟩:=h;refine⟨_,_,.inr ⟨rfl,NL [id] ak ak (λi I=>?_) O w ?_ (λi I=>?_)⟩,Z ts Y⟩
 . simp only[vv]at I;subst I;exact List.mem_of_mem_head? (by rw[a];rfl)
 . simp only[cG,R,bE.aM];rw[M,gk]
 . simp only[vv]at I;subst I;refine⟨_,R,?_⟩;simp only[bE.aM];rw[M,gk,gk]
def QY{f:FuncId}{hp:HS}{K:V->HS->Nat->Prop}{Good:Lw->HS->Prop}(a:(us.flatMap W.ids).head? =some id)(R:find hp id=some (.row sz rows))(h: ∃ts N,Fn P f args [(0,.row sz (tr xs))] (aR ts) N/\N=[(0,.row sz (tr xs))]/\Good ts N)
 (w:us.map (W.aM (bI [id]))=args) (M:aL rows xs)
 (Z:∀ts,Good ts [(0,.row sz (tr xs))]->K ((aR ts).aM (λj=>[id][j]?)) hp (ctr+4)): ∃v hp' c',dI P f us hp ctr v hp' c'/\K v hp' c':=by
 obtain⟨v,hp',O,Y⟩:=TK (hp:=hp) (ctr:=ctr) (K:=λv hp'=>K v hp' (ctr+4)) a R h w M Z;exact⟨v,hp',ctr+4,j7 O,Y⟩
abbrev GRd(sz:Nat)(xs:Lz)(G:Lw->Prop)(ts:Lw)(N:HS):Prop:=N=[(0,.row sz (tr xs))]/\G ts
def j0{hp:HS}(h:find hp 0=some (.row sz rows))(M:aL rows ys):od [(0,.row sz (tr xs))] hp [(0,.row sz (tr ys))]:=apP (by rw[h,M])
def aDP{hp:HS}{tm:TS}{t i len:Nat}{G:Lw->Prop}(J:rs=[.tmp t])(h:find tm t=some (.w (.one (.own 0 sz i len))))(R:find hp 0=some (.row sz rows))(M:aL rows xs)(hg:G [.one (.own 0 sz i len)]):
 ∃us ts N,bg P hp tm rs=some us/\bB (G0 [(0,.row sz (tr xs))] hp) us=some ts/\od [(0,.row sz (tr xs))] hp N/\GRd sz xs G ts N:=by
 subst J;refine⟨[.one (.own 0 sz i len)],[.one (.own 0 sz i len)],_,by simp only[bg,de,h],?_,j0 R M,rfl,hg⟩;simp only[bB,G0,inW,VH,find,if_true,ad7]
def aKP{hp:HS}{tm:TS}{t eV i len:Nat}{v:Lq}{G:Lw->Prop}(J:rs=[.tmp t])(h:find tm t=some (.w (.one (.own id eV i len))))(D:Nat.blt id 4=false)(s:find (xQ hp) id=some (.row eV v))(r:aL v ys)(U:i+len<=ys.length)
 (R:find hp 0=some (.row sz rows)) (M:aL rows xs) (hg:G [.one (.t (.aO eV ((ys.drop i).take len)))]):
 ∃us ts N,bg P hp tm rs=some us/\bB (G0 [(0,.row sz (tr xs))] hp) us=some ts/\od [(0,.row sz (tr xs))] hp N/\GRd sz xs G ts N:=by
 subst J
 have a:¬id < 4:=by
  intro l;have:Nat.blt id 4=true:=by simpa using l
  rw[D]at this;simp at this
 refine⟨[.one (.own id eV i len)],_,_,by simp only[bg,de,h],?_,j0 R M,rfl,hg⟩
 have g:inW [(0,bE.row sz (tr xs))] (.one (.own id eV i len))=false:=by
  have:¬ (0=id):=aa
  simp only[inW,VH,find,this,if_false,aew]
 simp only[bB,G0,g,aag,if_false,kO s r U]
def mkH:List (Nat×Nat)->List (Lz)->HS
 |(id,N)::L,o::w=>(id,.row N (tr o))::mkH L w|_,_=>[]
inductive tF:List (Nat×Nat)->HS->List (Lz)->Prop
 |nil:tF [] [] []
 |cons {id sz:Nat} {L:List (Nat×Nat)} {rows:Lq} {xs:Lz} {hp:HS} {xss:List (Lz)} (h:aL rows xs) (t:tF L hp xss):tF ((id,sz)::L) ((id,.row sz rows)::hp) (xs::xss)
def tF.eq{L:List (Nat×Nat)}{hp:HS}{w:List (Lz)}(h:tF L hp w):hp=mkH L w:=by
 induction h with
 |nil=>rfl
 |cons h _ c=>simp only[mkH];rw[h,c]
def bp{b:Rc}{Q:Exit->TS->HS->Nat->Prop}{tm:TS}{hp:HS}(N:List Nat)(a:List (Nat×Nat))(ks:List Nat)(L:List (Nat×Nat))(R:Nat->List V->List (Lz)->Prop)(A:Nat)(v:List V){j:List (Lz)}{D:TS}{d:HS}{y:Nat}
 (x:qW (Bo N a tm hp) λS=>jx (S.tm tm) λt=>mq (S.hp hp) λq=>S.ok=true/\t=D/\q=d/\S.ctr=y)
 (Z:D.length=N.length) (z:D=fF ks v D) (F:tF L d j) (h:R A v j)
 (s:∀m vs w,R m vs w->jx (fF ks vs D) λr=>mq (mkH L w) λhq=>X P n b (dP (bA λtm' hp' c'=> ∃m' e K,tF L hp' K/\R m' e K/\tm'=fF ks e D/\c'=y/\m' < m) Q) r hq y):
 ∃I:Nat->TS->HS->Nat->Prop,bA (λtm hp c=> ∃m,I m tm hp c) tm hp ctr/\
  ∀m tm hp c,I m tm hp c->X P n b (dP (bA λtm hp c=> ∃m',m' < m/\I m' tm hp c) Q) tm hp c:=by
 rw[kP,dX,fL]at x;obtain⟨l,H,o,G⟩:=x;refine⟨λm tm' hp' c'=> ∃e K,tF L hp' K/\R m e K/\tm'=fF ks e D/\c'=y,bA.mk' ⟨Bo N a tm hp,l,A,v,j,by rw[o];exact F,h,H.trans z,G⟩,?_⟩;rintro m tm' hq c' ⟨vs,w,hH',M,rfl,rfl⟩;have:=s m vs w M;rw[dX,fL, <-hH'.eq]at this;refine(congrArg (λJ=>X P n b (dP (bA J) Q) _ _ _) ?_).mp this;funext tm' hp' c'';exact propext ⟨λ⟨m',e,K,O,Y,B,g,U⟩=>⟨m',U,e,K,O,Y,B,g⟩,λ⟨m',U,e,K,O,Y,B,g⟩=>⟨m',e,K,O,Y,B,g,U⟩⟩
def yN(xs ys:Lz)(i:Nat):bt (tr xs) i (tr ys)=tr (bt xs i ys):=by
 unfold bt tr;simp
def vA(xs:Lz):(tr xs).length=xs.length:=iC
def Bz(xs:Lz)(n:Nat):(tr xs).take n=tr (xs.take n):=iC
def TV{d s t1 t2 e i len:Nat}{tm:TS}{hp:HS}{K:V->HS->Prop}
 (F:find tm d=some (.w (.one (.own id sz i len)))) (S:find tm s=some (.w (.one c))) (o:isNil c=false) (H:elems hp c=some (sz,tr ys))
 (Q:P.underlying t1=some (.slice e)) (N:dc P e=some sz) (R:find hp id=some (.row sz rows)) (L:aL rows xs) (U:i+len<=xs.length)
 (Z:K (iV .i64 (((ys.take len).length:Nat):Int)) (jB hp id (.row sz (tr (bt xs i (ys.take len)))))):
 ∃v hp',jA P n (.call ⟨.builtin .copy, #[.tmp d,.tmp s], #[t1,t2]⟩) ty tm hp ctr v hp'/\K v hp':=by
 refine⟨_,_,?_,Z⟩;rintro⟨g,op',B,O,Y,guard'⟩ rfl rfl;have M9:rows=tr xs:=L;subst M9
 by_cases z:(ys.take len).length=0
 . have y:aK P (St.get ⟨n,tm,hp⟩) hp ctr ⟨g,.call ⟨.builtin .copy, #[.tmp d,.tmp s], #[t1,t2]⟩,B,O,Y,guard'⟩=some (.w (.one (.t (.val (goInt 0)))),hp):=by
    simp only[aK,St.get,F,S,YJ,iq,Q,N,o,H,aag,if_false,Bz,vA,z,if_true]
   intro M A ρ a w J;obtain⟨x,j,l,r,g1,g2,D⟩:=jz y M A ρ a w J;refine⟨x,j,l,r,g1,g2.forget rfl (λ_ _ h=>h) (λk b G=>?_),by rw[z];exact D⟩;simp only[bO]at G;split at G
   . rename_i ek;subst ek;rw[R]at G;simp only[wv,ii]at G;rw[<-G,R,ac5 z];simp[bt]
   . exact G
 . have y:aK P (St.get ⟨n,tm,hp⟩) hp ctr ⟨g,.call ⟨.builtin .copy, #[.tmp d,.tmp s], #[t1,t2]⟩,B,O,Y,guard'⟩=some (.w (.one (.t (.val (goInt ((ys.take len).length:Int))))),jB hp id (.row sz (tr (bt xs i (ys.take len))))):=by
    have I:True/\True/\True/\i+len<=xs.length:=⟨trivial,trivial,trivial,U⟩;simp only[aK,St.get,F,S,YJ,iq,Q,N,o,H,R,aag,if_false,Bz,vA,z,yN];rw[if_pos I]
   exact jz y
end Go.aW
