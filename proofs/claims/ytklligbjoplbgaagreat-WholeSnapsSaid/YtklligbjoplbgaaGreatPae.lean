/- Part 5 of the proof of WholeSnaps. No conditions. -/
import Derived.Test.YtklligbjoplbgaaGreatPad
import Derived.Lib.ConvBytes
import Derived.Lib.BufferRead
set_option linter.all false
open List renaming length->List.n
open String renaming length->String.n
open Array renaming size->Array.s,toList->Array.t
open ByteArray renaming size->ByteArray.s
open Go.TypeInfo renaming size->Go.TypeInfo.s
open Go.RowKit.Below renaming size->Go.RowKit.Below.s
open Option renaming toList->Option.t,some->cu,none->cw
open Go.World renaming heap->Go.World.h
open Int renaming toNat->Int.m
open Go.Value renaming int->bU,agg->bV,pointer->bW,slice->bX,string->bY,bool->bZ,tuple->cg
open Go.Ending renaming returned->cj
open Go.IntKind renaming i64->cq,u64->ct
open Bool renaming true->cx,false->cy
namespace Go.Proofs.YtklligbjoplbgaaGreat
set_option maxRecDepth 100000
set_option maxHeartbeats 64000000
open Go.RowKit Lib List Nat _root_.Go.Proofs.Tryz Go.Shelf
variable {A Z args:gE}{F:gE->c7}{a:Act}{K:Act->cS->Prop}{parts:Array (Nat×Operand)}{af:Array Edge}{ops:Array Oper}{c:dW}{cT:fF}{R:Ending->cS->Prop}{Q:Exit->Act->cS->Prop}{fn:Func}{B bs l r:cV}{X:cV->cS->Prop}{ps:List (c7×cV)}{ts:List cV}{O:List O4}{rest:List Oper}{L rs:List R4}{m:List dL}{vs xs:List c7}{D G M b base by' dst g i j k n y z:Nat}{f:Nat->c7}{o:O4}{q:Operand}{gd:Option (Nat×Bool)}{ao:Option Addr}{d:Option Nat}{P:oN}{s:dw}{p pp:String}{T dT e src t t2 ty u:dU}{β:Type}{v zv:c7}{W W' w w' w0:cS}{SS:cS->Prop}
theorem St.DP(S:St w0 d l L O X w)(h:dR w w')(ho:Cj w' w.h.s v m):
 St w0 d l L (⟨109,11,v,m.n,jh m⟩::O) (λB w=>X B w/\oL m B w) w':=by refine(S.iv h ho.1 ae ae).DN (jn m) λx f=>⟨(ho.2 x f).1,λg b c i=>?_⟩;have p:=(ho.2 x f).2 g b c;have k:=(ho.2 x f).1.ty c g;rcases iB.1 i with⟨r,j,e⟩|⟨o,a,e⟩;have:=S.lt b (iB.2 (.inl ⟨r,j,e⟩));omega;rcases iZ.1 a with rfl|a;have n:=wC ho.1 e;grind;have:=S.lt b (iB.2 (.inr ⟨o,a,e⟩));omega
def u0(b:ee)(s:dw):ee:=⟨iR b.next,b.cU++[s]⟩
def abm(n:Nat):IntKind.u64.wrap ((n:Int)+1)=((iR n:Nat):Int):=by rfl
section
attribute[local irreducible]wpList Code.wp Calls Oper.wp wpAnyH
def Jq(b:dW)(A:gE)(p:A=cL 2 (dO b))(q:zn b.t)(s:dL)(D:gE)(t:D=cL 11 (iw s))(w:cS)(R:iT w b):
 CP_ 116 #[bV A,bV D] w λe w'=>∃(B:gE)(m:List dL)(ao:Option Addr)(c:Nat),e=cj (bV B)/\B=cL 2 (dO ⟨iR b.next,m++[s],ao,c⟩)/\eM m=eM b.l/\
  w'.ownsRow w.h.s 109 11 (bX ao (m.n+1) c) (m.n+1) (jh (m++[s]))/\(∀x∈m,sH w' w.h.s x)/\dR w w':=by have G:=q.len;have J:=cz p;have L:=cz t;have R:=cz R;have u:=cz λW(g:dR w W)=>qJ b A p q W (R.o.cP g);have S:=qR w;obtain⟨z,l,N,O⟩:=b;have Q:=abm z;simp only at G;clear p q t;go_enter func116,ntmps116;go_wp2_with first|(refine ah (u.o _ S.b) λB W⟨⟨⟨k,m,C,F⟩,r,hc,ho⟩,g⟩=>?_;obtain⟨d,a⟩:=ee.mk.inj hc;simp only at d a;subst d;have K:=cz r;have y:=cz a;have H:m.n<=1000000:=(by have o:=gD length a;rw[iu,iu] at o;omega);have v:=cz (show∀x∈m,rH w.h.s x from λx h I b o=>iE S.fr.size ((ho.2 x h).2 I b o));replace S:=S.DP g ho;change St _ _ _ _ (⟨109,11,bX C m.n F,m.n,jh m⟩::_) _ _ at S;clear g r hc a)|refine tA S 0 rfl 0 rfl rfl rfl rfl Jn (mI _) CK xZ λn i W S=>?_|refine xA S 1 rfl 1 (dO ⟨k,m++[s],s_ n 0,i⟩) (λj f=>by have f:j<2:=f;rcases j with(_|_|j);rfl;show Value.slice _ (m++[s]).n _=_;rw[ji];rfl;omega) rn rfl rfl rfl sS λW S=>?_|(refine xA S 1 ae 0 (dO ⟨iR k,m++[s],s_ n 0,i⟩) (λj f=>by have f:j<2:=f;rcases j with(_|_|j);rfl;rfl;omega) rn ae ae ae fZ λW S=>?_;obtain⟨E,M⟩:=yB (cL 2 (dO ⟨iR k,m++[s],s_ n 0,i⟩)))|(refine mA ?_;exact⟨_,m,_,_,ae,ae,y.o,by rw[xl,UA];exact S.o0,λx h=>⟨(S.x.2 x h).1,v.o x h⟩,S.b⟩)|refine fL ?_|refine fg λW S=>?_
end
section
theorem St.Mz(S:St w0 d l L O X w)(h:dR w w')(ho:w'.ownsRow w.h.s 109 11 v m.n (jh m))(f:∀x∈m,zj w' x)(p:∀x∈m,0<x.di.n->∀b,x.dv.ownBlock=cu b->b∉eS L O):
 St w0 d l L (⟨109,11,v,m.n,jh m⟩::O) (λB w=>X B w/\oL m B w) w':=by refine(S.iv h ho ae ae).DN (jn m) λx g=>⟨f x g,λj b c i=>?_⟩;have k:=(f x g).ty c j;rcases iB.1 i with⟨r,q,e⟩|⟨o,a,e⟩;grind[iB];rcases iZ.1 a with rfl|a;have n:=wC ho e;grind;grind[iB]
def St.kr(S:St w0 d l L O X w)(a:dR w w')(ho:uZ w' w.h.s c):
 St w0 d l L (⟨109,11,c.sv,c.l.n,jh c.l⟩::O) (λB w=>X B w/\oL c.l B w) w':=S.DP a ho
def St.fresh(S:St w0 d l L O X w)(ho:uZ w' w.h.s c):∀x∈c.l,rH w0.h.s x:=
 λx f e b a=>iE S.fr.size ((ho.2 x f).2 e b a)
def St.jJ(S:St w0 d l L (⟨109,11,c.sv,c.l.n,jh c.l⟩::O) (λB w=>X B w/\oL c.l B w) w)(b:∀x∈c.l,rH w0.h.s x):uZ w w0.h.s c:=
 ⟨S.o0,λx a=>⟨(S.x.2 x a).1,b x a⟩⟩
end
def Be{n:Fi_}{t:ee}(S:St w0 d l L O X w)(C:CP_ n args w λe w'=>∃B,e=cj (F B)/\lY w' w.h.s B t/\dR w w')(h:∀W B c,Hid (B=cL 2 (dO c))->Hid (c.t=t)->Hid (∀x∈c.l,rH w0.h.s x)->St w0 d l L (⟨109,11,c.sv,c.l.n,jh c.l⟩::O) (λB w=>X B w/\oL c.l B w) W->R (cj (F B)) W):CP_ n args w R:=
 C.mono λe W ⟨B,he,⟨c,hB,hc,ho⟩,hb⟩=>by subst he;exact h W B c hB hc (S.fresh ho) (S.kr hb ho)
def Ho(w:cS)(x:dL)(a:x.di=[])(b:x.dZ=cw)(c:x.cap=0):zj w x:=by unfold zj dL.dv;rw[a,b,c];exact c8.nil _ _ _
def iK(b:ee)(cT:fF)(a:Int):ee×Int:=
 match vC cT with
 |none=>(b,141)
 |some ir=>if a<1∨64<a then(b,176) else if 32<=b.cU.n then(b,175) else
  match k8 b.cU cT with
  |some _=>(b,171)
  |none=>(u0 b ⟨b.next,ir,cy,b.next,0,0,a.m,cX,[]⟩,0)
section
attribute[local irreducible]wpList Code.wp Calls Oper.wp wpAnyH
theorem MA(b:dW)(A:gE)(o:A=cL 2 (dO b))(u:zn b.t)(cT:fF)(q:cT.s<=140737488355328)(a:Int)(w:cS)(R:iT w b):
 CP_ 77 #[bV A,bY cT,bU cq a] w λe w'=>∃B,e=cj (cg #[bV B,bU cq (iK b.t cT a).2])/\lY w' w.h.s B (iK b.t cT a).1/\dR w w':=by
 have Q:=cz o;have R:=cz R;have G:=cz (DO cT q);have l:=cz λW(d:dR w W)=>yj b A o u cT q W (R.o.cP d);have I:=cz λW(d:dR w W)=>qJ b A o u W (R.o.cP d);have z:=cz λs D p W(d:dR w W)=>Jq b A o u s D p W (R.o.cP d);have S:=qR w;have E:b.l.n=b.t.cU.n:=(iu _).symm;clear o u;obtain⟨T,j⟩:=sO (iK b.t cT a);rw[j.o];go_enter func77,ntmps77;go_upto_region 2 with(first|refine je S (G.o _) λW S=>?_|refine fg λW S=>?_);rcases hv:vC cT with _|ir;obtain rfl:(b.t,141)=T:=by rw[<-j.o];unfold iK;rw[hv]
 rotate_left;by_cases r:a<1∨64<a;obtain rfl:(b.t,176)=T:=by rw[<-j.o];unfold iK;rw[hv];simp only[r,oR]
 rotate_left;have U:¬a<1:=cN;have V:¬64<a:=cN;by_cases y:32<=b.t.cU.n;obtain rfl:(b.t,175)=T:=by rw[<-j.o];unfold iK;rw[hv];simp only[r,y,oR,mq]
 have N:(32:Int)<=(b.l.n:Int):=cN;rotate_left;have N:¬(32:Int)<=(b.l.n:Int):=cN;rcases f:k8 b.t.cU cT with _|i;obtain⟨n,rfl⟩:∃n:Nat,a=n:=⟨a.m,cN⟩;obtain rfl:(u0 b.t ⟨b.next,ir,cy,b.next,0,0,n,cX,[]⟩,0)=T:=by rw[<-j.o];unfold iK;rw[hv];simp only[r,y,mq,f];rfl
 rw[f] at l;simp only[lF] at l;obtain⟨D,p⟩:=fP (cL 11 (iw ⟨⟨b.next,ir,cy,b.next,0,0,n,cX,[]⟩,cw,0⟩));have H:=cz (z.o _ D p);have L:=cz p;clear p z;rotate_left;obtain rfl:(b.t,171)=T:=by rw[<-j.o];unfold iK;rw[hv];simp only[r,y,mq,f]
 rw[f] at l;simp only[lF] at l
 all_goals
  go_wp2_with first|refine jl 29 97 28 S 1 1 (bX b.dZ b.l.n b.cap) ?_|refine Be S (I.o _ S.b) λW B c J K v S=>?_|refine je S (l.o _ S.b) λW S=>?_|refine lE (cells:=D) ae (by rw[L.o];kernel_rfl) ?_|(refine(H.o _ S.b).mono ?_;rintro e W ⟨B,m,ao,c,rfl,C,F,ho,t,d⟩;have J:=cz C;have M:=cz F;have v:=cz (show∀x∈m,rH w.h.s x from λx g f b k=>iE S.fr.size ((t x g).2 f b k));replace S:=S.Mz d (m:=m++[_]) (by rw[ji];exact ho) (λx g=>by rcases gH.1 g with h|h;exact(t x h).1;rw[fM.1 h];exact Ho _ _ ae ae ae) (λx g f b k O=>by rcases gH.1 g with h|h;have:=(t x h).2 f b k;have:=S.lt b O;omega;grind);clear d C t F)|refine fL ?_|refine fg λW S=>?_|(refine mA ?_;exact⟨_,ae,⟨c,ae,K.o,S.jJ v.o⟩,S.b⟩)|(refine mA ?_;exact⟨_,ae,⟨_,ae,by unfold dW.t u0 eM;rw[nL];simp only;rw[show map dL.todw m=eM m from ae,M.o];rfl,by have k:=S.o0;exact⟨by unfold dW.sv;rw[ji] at k|-;exact k,λx g=>⟨(S.x.2 x g).1,by rcases gH.1 g with h|h;exact v.o x h;grind⟩⟩⟩,S.b⟩)
def SE1(w0:cS)(d:Option Nat)(l:cV)(rs:List R4):cS->Prop:=λW=>∃L O X,St w0 d l L O X W/\∀r∈rs,r∈L
def SE1.row(h:SE1 w0 d l rs W)(k:Nat){r:R4}(a:rs[k]?=cu r):cM W r.b r.t r.n r.f:=by obtain⟨L,O,X,S,b⟩:=h;exact(S.row r (b r (kA a))).1
theorem SE1.fr{w0 W:cS}{d:Option Nat}{l:cV}{rs:List R4}(h:SE1 w0 d l rs W):Fr d l w0 W:=by obtain⟨L,O,X,S,a⟩:=h;exact S.fr
def eR(S:St w0 d l L O X w){id:Nat}(b:P.follows .mixedOrders=cx)(rs:List R4)(c:∀r∈rs,r∈L)(h:∀W,St w0 d l L O X W->wpAnyH P .any ops Q (SE1 w0 d l rs) ops.s (Array.replicate ops.s cy) a W):(Code.region id ops cx).wp P Q a w:=
 wp_region_held_drew b ⟨L,O,X,S.drew,c⟩ λ_=>h _ S.drew
theorem we{l:List dL}(h:k8 (eM l) cT=cu k):∃x,l[k]?=cu x:=by unfold k8 at h;cases a:(nJ (eM l) cT).1 with|none=>grind|some j=>grind[kL,dH,eM]
theorem UG{x:Nat}{o:Nat}{s:dL}(e:∀w,SS w->nE w b o s)(k:a.eval (.tmp x)=bW (cu ⟨b,o+7,cw⟩))(d:A=cL 3 (dF s.cO))(i:Region.wanted ⟨cu dst,.load 106 (.tmp x),t2,pp,af,gd⟩ (yielded ops a.tmps)=cx:=by kernel_rfl):YieldsIf prog ops SS ⟨cu dst,.load 106 (.tmp x),t2,pp,af,gd⟩ (bV A) a:=by obtain⟨⟨c,g,f⟩,l⟩:=fK;have h:=yieldsIf_load_mid (P:=prog) (S:=SS) (op:=⟨cu dst,.load 106 (.tmp x),t2,pp,af,gd⟩) (ops:=ops) i 106 (.tmp x) ae b (o+7) k A.t c (λw h=>?_) g f aG;omega;intro j v hv;rw[d,mR (xs:=cL 3 _),dy] at hv;split at hv;(next hj=>cases hv;rw[FT,e w h (7+j) cN];unfold iw;grind);cases hv
def jy(b:ee)(a c:fF):ee×Int:=
 match pG a with
 |none=>(b,141)
 |some _=>match vC c with
  |none=>(b,141)
  |some ir=>match k8 b.cU a with
   |none=>(b,172)
   |some i=>if 32<=b.cU.n then(b,175) else match k8 b.cU c with
    |some _=>(b,171)
    |none=>(u0 b ⟨b.next,ir,cy,b.next,(dH b.cU i).id,0,(dH b.cU i).blocks,(dH b.cU i).cO,[]⟩,0)
theorem OS(b:dW)(A:gE)(C:A=cL 2 (dO b))(J:zn b.t)(a d:fF)(L:a.size<=140737488355328)(M:d.size<=140737488355328)(w:cS)(R:iT w b):
 CP_ 97 #[.agg A,.string a,.string d] w λe w'=>∃B,e=.returned (.tuple #[.agg B,.int .i64 (jy b.t a d).2])/\lY w' w.heap.size B (jy b.t a d).1/\dR w w':=by
 have HA:=cz C;have N:=cz R;have C1:=cz (Cm a L);have C5:=cz (DO d M);have C2:=cz λW(o:dR w W)=>yj b A C J a L W (N.o.cP o);have t:=cz λW(o:dR w W)=>yj b A C J d M W (N.o.cP o);have E:=cz λW(o:dR w W)=>qJ b A C J W (N.o.cP o);have Z:=cz λs D F W(o:dR w W)=>Jq b A C J s D F W (N.o.cP o);have S:=qR w;have a3:b.l.length=b.t.cU.length:=(iu _).symm;obtain⟨ao,cap,-,a1,a5⟩:=dP R.1;clear C J;obtain⟨T,Y⟩:=dI (jy b.t a d);have y:=cz Y;rw[Y];clear Y;go_enter func97,ntmps97;go_upto_region 2 with(first|refine je S (C1.o _) λW S=>?_|refine fg λW S=>?_)
 cases hv:pG a with
 |none=>
  obtain rfl:(b.t,141)=T:=by rw[<-y.o];unfold jy;rw[hv]
  go_wp2_with first|refine Be S (E.o _ S.b) λW B c u p g S=>?_|(refine mA ?_;exact⟨_,ae,⟨c,ae,p.o,S.jJ g.o⟩,S.b⟩)|refine fL ?_|refine fg λW S=>?_
 |some vv=>
  go_upto_region 5 with(refine je S (C5.o _) λW S=>?_)
  cases l:vC d with
  |none=>
   obtain rfl:(b.t,141)=T:=by rw[<-y.o];unfold jy;rw[hv];simp only[l]
   go_wp2_with first|refine Be S (E.o _ S.b) λW B c u p g S=>?_|(refine mA ?_;exact⟨_,ae,⟨c,ae,p.o,S.jJ g.o⟩,S.b⟩)|refine fL ?_|refine fg λW S=>?_
  |some ir=>
   go_upto_region 8 with(first|refine je S (C2.o _ S.b) λW S=>?_|refine fL ?_)
   cases q:k8 b.t.cU a with
   |none=>
    obtain rfl:(b.t,172)=T:=by rw[<-y.o];unfold jy;rw[hv];simp only[l,q]
    simp only[lF]
    go_wp2_with (first
   |refine Be S (E.o _ S.b) λW B c u p g S=>?_
   |(refine mA ?_;exact⟨_,ae,⟨c,ae,p.o,S.jJ g.o⟩,S.b⟩)
   |refine fL ?_
   |refine fg λW S=>?_)
   |some i=>
    simp only[lF];have a6:¬((i:Int)<0):=cN;by_cases X:32<=b.t.cU.length
    . obtain rfl:(b.t,175)=T:=by rw[<-y.o];unfold jy;rw[hv];simp only[l,q,X,oR]
      have h5:(32:Int)<=(b.l.length:Int):=cN
      go_wp2_with first|(first|refine jl 44 97 43 S 1 1 (.slice b.dZ b.l.length b.cap) ?_)|refine Be S (E.o _ S.b) λW B c u p g S=>?_|(refine mA ?_;exact⟨_,ae,⟨c,ae,p.o,S.jJ g.o⟩,S.b⟩)|refine fL ?_|refine fg λW S=>?_
    . have h5:¬(32:Int)<=(b.l.length:Int):=cN
      go_upto_region 12 with(refine jl 44 97 43 S 1 1 (.slice b.dZ b.l.length b.cap) ?_)
      cases r:k8 b.t.cU d with
      |some j=>
       obtain rfl:(b.t,171)=T:=by rw[<-y.o];unfold jy;rw[hv];simp only[l,q,X,mq,r]
       rw[r] at t;simp only[lF] at t
       go_wp2_with first|refine je S (t.o _ S.b) λW S=>?_|refine Be S (E.o _ S.b) λW B c u p g S=>?_|(refine mA ?_;exact⟨_,ae,⟨c,ae,p.o,S.jJ g.o⟩,S.b⟩)|refine fL ?_|refine fg λW S=>?_
      |none=>
       rw[r] at t;simp only[lF] at t;obtain⟨x,f⟩:=we q;have a7:=(nB.1 f).1;have a2:(i:Int)<(b.l.length:Int):=cN;have hg:dH b.t.cU i=x.todw:=lG f;obtain rfl:(u0 b.t ⟨b.next,ir,false,b.next,x.id,0,x.blocks,x.cO,[]⟩,0)=T:=by rw[<-y.o];unfold jy;rw[hv];simp only[l,q,X,mq,r,hg];rfl
       obtain⟨D,F⟩:=fP (cL 11 (iw ⟨⟨b.next,ir,false,b.next,x.id,0,x.blocks,x.cO,[]⟩,none,0⟩));obtain⟨G,hG⟩:=fP (cL 3 (dF x.cO));have C4:=cz (Z.o _ D F);have HD:=cz F;have HG:=cz hG;obtain⟨k,n,I⟩:∃k n,b.dZ=s_ k n:=by
        obtain⟨_,_,V,_,h⟩:=dP R.1;unfold dW.sv at V;simp only[ly] at V;obtain⟨h1,o1,h2⟩:=h cN;exact⟨h1,o1,by rw[V.1];exact h2⟩
       have Q:Hid (dO b 1=.slice (s_ k n) b.l.length b.cap):=cz (by rw[<-I];rfl);have R9:gu w (.slice (s_ k n) b.l.length b.cap) b.l:=by have:=R;unfold iT dW.sv at this;rwa [I] at this
       have U:=cz (R9.at f);clear F Z hG
       go_upto_region 15 with(first|refine je S (t.o _ S.b) λW S=>?_|refine EC S 1 ae 1 (v:=.slice (s_ k n) b.l.length b.cap) Q.o ?_|refine fL ?_)
       refine eR S dC [⟨w.heap.size,99,2,dO b⟩] CI λW S=>?_;refine gZ 0 (.agg A) ae (rE aI ae HA.o nT) ?_;refine dh 1 (dE w.heap.size 0) ?_;refine dh 2 (.int .u64 b.next) ?_;refine dh 3 _ ?_;refine dh 4 (dE w.heap.size 0) ?_;refine dh 5 (.int .u64 b.next) ?_;refine dh 6 _ ?_;refine dh 7 (dE k (n+i*11)) ?_;refine dh 8 (dE k (n+i*11)) ?_;refine gZ 9 (.int .u64 x.id) ae (gO (λw h=>(U.o.cP h.fr.cP).c0) ae fZ) ?_;refine dh 10 _ ?_;refine dh 11 (dE k (n+i*11)) ?_;refine dh 12 (dE k (n+i*11+6)) ?_;refine gZ 13 (.int .i64 x.blocks) ae (gO (λw h=>(U.o.cP h.fr.cP).c6) ae DG) ?_;refine dh 14 _ ?_;refine dh 15 (dE k (n+i*11)) ?_;refine dh 16 (dE k (n+i*11+7)) ?_;refine gZ 17 (.agg G) ae (UG (λw h=>U.o.cP h.fr.cP) ae HG.o) ?_;refine gZ 18 (.agg D) ae (y8 ae (by rw[HD.o,HG.o];kernel_rfl)) ?_;refine kI 19 λK H=>?_
       go_wp2_with fail
       refine(C4.o _ S.b).mono ?_;rintro e W ⟨B,m,a4,c,rfl,hB,hm,ho,O,o⟩;have u:=cz hB;have HM:=cz hm;have g:=cz (show∀x∈m,rH w.heap.size x from λx f q b z=>iE S.fr.size ((O x f).2 q b z));replace S:=S.Mz o (m:=m++[_]) (by rw[ji];exact ho) (λx f=>by rcases gH.1 f with h|h;exact(O x h).1;rw[fM.1 h];exact Ho _ _ ae ae ae) (λx f q b z h8=>by rcases gH.1 f with h|h;have:=(O x h).2 q b z;have:=S.lt b h8;omega;grind);clear o hB ho O hm;refine gq H ?_;clear H K;refine kI 20 λK H=>?_;refine kq S 0 ae ae ae u.o nT (fT _) λW S=>?_;refine gq H ?_;clear H K;refine dh 21 _ ?_;refine qx ?_
       go_wp2_with (refine mA ?_;exact⟨_,ae,⟨_,ae,by unfold dW.t u0 eM;rw[nL];simp only;rw[show map dL.todw m=eM m from ae,HM.o];rfl,by have z:=S.o0;exact⟨by unfold dW.sv;rw[ji] at z|-;exact z,λx f=>⟨(S.x.2 x f).1,by rcases gH.1 f with h|h;exact g.o x h;grind⟩⟩⟩,S.b⟩)
end
section
variable {x:Nat}
theorem Zt(c:w.there b i 1)(m:a.eval (.tmp x)=bW (cu ⟨b,i,cw⟩))(n:a.eval q=v)(hv:v.oneCell'=cx)(e:lD P ty)(h:K (a.put cw undef) (w.setCell ⟨b,i,cw⟩ v)):Oper.wp P ⟨cw,.store ty (.tmp x) q,t2,p,af,cw⟩ a w K Q:=by
 have d:=Mf (P:=P) b i [v] 0 w (λj g=>by simpa using(c j cN).1) (λj g=>by simpa using(c j cN).2) (λu o=>by grind);have hc:v.cells=#[v]:=by cases v<;>first|rfl|cases hv
 have f:(storeVar ty ⟨b,i,cw⟩ v).run P w=.ok () (w.setCell ⟨b,i,cw⟩ v):=by cases k:P.info? ty with|none=>have:=e.2;grind|some it=>(have l:it.s=1:=by have:=e.2;grind);simp only[xJ] at d;simp[storeVar,sizeOf,typeInfo,k,hc,l,d];rfl
 unfold Oper.wp execOp;simp only[m,n,Instr.storeAt,Instr.sureAddr,lh,rR,nW,f];exact h
theorem MC(S:St w0 d l L O X w)(j:Nat)(r:O[j]?=cu o){c:Nat}(hv:o.v=bX (cu ⟨g,0,cw⟩) o.n c)(i:Nat)(z:i<o.n*o.z)(u:a.eval (.tmp x)=bW (cu ⟨g,i,cw⟩))(y:a.eval q=v)(e:v.oneCell'=cx)(t:lD P ty)(h:∀W,St w0 d l L (O.set j ⟨o.e,o.z,o.v,o.n,o.xs.set i v⟩) X W->K (a.put cw undef) W):Oper.wp P ⟨cw,.store ty (.tmp x) q,t2,p,af,cw⟩ a w K Q:=by
 have b:=S.uS r;rw[hv] at b;obtain⟨m,f,s,A⟩:=Bc b;refine Zt (nS s (n:=1) cN) u y e t (h _ ?_);have k:o.v.ownBlock=cu g:=by rw[hv];rfl
 exact S.grow r (by grind[uY,sy]) (by rw[hv];exact(b.stored i v).1) k (.inl k)
end
theorem wh(c:k<m.n){x:dL}(e:m[k]=x)(j:Nat)(f:j<11)(v:c7)(y:dL)(h:∀i,i<11->iw y i=if i=j then v else iw x i):(jh m).set (k*11+j) v=jh (m.set k y):=by refine Mx Bb m c y (by grind[oz]) (λi b=>?_) λi r d g=>?_;unfold Uz;rw[mR (xs:=cL 11 _),dy,df b,h i b];by_cases a:i=j;subst a;rw[getElem?_set_self (by rw[oz];omega),df ae];rw[getElem?_set_ne cN,cZ a,nD m c (A:=cL 11 (iw x)) (by rw[e]) i b,dy,df b];grind[jh]
theorem xD{cT ir dz:fF}(h:eO cT=cu (ir,dz)):eo ir=cx:=by grind[eO]
theorem RQ{ir dz:fF}(h:pG cT=cu (ir,dz)):ir.s<=140737488355328:=by grind[pG,kF,xD]
def im(b:ee)(cT:fF)(cR:Nat):ee×Int:=
 match pG cT with
 |none=>(b,141)
 |some (ir,dz)=>match k8 b.cU ir with
  |none=>(b,172)
  |some i=>if 32<=b.cU.n then(b,175) else match k8 b.cU cT with
   |some _=>(b,171)
   |none=>if cR<1∨281474976710655<cR∨cR<=gj b.cU (dH b.cU i).id then(b,176) else
    (⟨iR b.next,(b.cU++[{dH b.cU i with id:=b.next,name:=dz,dz:=cx,cY:=(dH b.cU i).id,cR:=cR}]).set i {dH b.cU i with dB:=b.next,di:=[]}⟩,0)
theorem aeg{l:List dL}{s a x:dL}{p q:dw}(b:eM m=eM l)(c:s.todw=p)(d:a.todw=q):eM ((m++[s]).set i a)=(eM l++[p]).set i q:=by grind[eM,map_set]
theorem Jr{y x:dL}(h:y.todw=x.todw):y.id=x.id/\y.name=x.name/\y.dz=x.dz/\y.cY=x.cY/\y.dB=x.dB/\y.cR=x.cR/\y.blocks=x.blocks/\y.cO=x.cO/\y.di=x.di:=
 by grind
section
attribute[local irreducible]wpList Code.wp Calls Oper.wp wpAnyH
def RS (b:dW)(A:gE)(hA:A=cL 2 (dO b))(hf:zn b.t)(cT:fF)(hfu:cT.s<=140737488355328)(cR:Nat)(w:cS)(R:iT w b):
 CP_ 54 #[bV A,bY cT,bU ct cR] w λe w'=>∃B,e=cj (cg #[bV B,bU cq (im b.t cT cR).2])/\lY w' w.h.s B (im b.t cT cR).1/\dR w w':=by
 have HA:=cz hA;have HR:=cz R;have C1:=cz (Cm cT hfu);have C2:=cz λcT hfu W (hb:dR w W)=>yj b A hA hf cT hfu W (HR.o.cP hb);have C7:=cz λid W (hb:dR w W)=>EJ b.l b.sv id hf.len W (HR.o.cP hb);have C9:=cz λW (hb:dR w W)=>qJ b A hA hf W (HR.o.cP hb);have C3:=cz λs D hD W (hb:dR w W)=>Jq b A hA hf s D hD W (HR.o.cP hb);have hd:rG b.l:=hf.2;have S:=qR w;have HL:=cz (show b.l.n=b.t.cU.n from(iu _).symm);obtain⟨ao,cap,-,hcap,hao⟩:=dP R.1;clear hA hf;obtain⟨T,hT⟩:=dI (im b.t cT cR);have HT:=cz hT;rw[hT];clear hT;go_enter func54,ntmps54
 go_upto_region 2 with(first|(first|refine jx 3 99 0 S HA.o λW S=>?_|refine jb 6 99 S sU ot λW S=>?_)|(refine je S (C1.o _) λW S=>?_))
 cases hv:pG cT with
 | none=>
  obtain rfl: (b.t,141)=T:=by rw[<-HT.o];unfold im;rw[hv]
  go_wp2_with (first|(refine jr 23 99 3 S 1 HA.o ?_)|refine js 99 6 24 S 0 HB.o (fT _) λW S=>?_|(refine Be S (C9.o _ S.b) λW B c HB HC HF S=>?_)|((with_reducible refine s6 ?_);go_must (refine oY S 0 rfl rfl rfl nT rfl ?_;exact⟨_,rfl,⟨c,rfl,HC.o,S.jJ HF.o⟩,S.b⟩)))
 | some vv=>
  obtain⟨ir,dz⟩:=vv;have hvs:=RQ hv
  go_upto_region 5 with(first|(with_reducible refine jr 26 99 3 S 1 HA.o ?_)|(go_at_call 113;refine je S (C2.o ir hvs _ S.b) λW S=>?_))
  cases hn:k8 b.t.cU ir with
  | none=>
   obtain rfl: (b.t,172)=T:=by rw[<-HT.o];unfold im;rw[hv];simp only[hn]
   simp only[lF]
   go_wp2_with (first|(with_reducible refine jr 31 99 3 S 1 HA.o ?_)|with_reducible refine js 99 6 32 S 0 HB.o (fT _) λW S=>?_|(go_at_call 112;refine Be S (C9.o _ S.b) λW B c HB HC HF S=>?_)|((with_reducible refine s6 ?_);go_must (refine oY S 0 rfl rfl rfl nT rfl ?_;exact⟨_,rfl,⟨c,rfl,HC.o,S.jJ HF.o⟩,S.b⟩)))
  | some i=>
   simp only[lF];have hi0: ¬((i:Int)<0):=cN;by_cases h4:32<=b.t.cU.n
   . obtain rfl: (b.t,175)=T:=by rw[<-HT.o];unfold im;rw[hv];simp only[hn,h4,oR]
     have h5: (32:Int)<=(b.l.n:Int):=by have:=HL.o;omega
     go_wp2_with (first|(with_reducible first|refine jl 34 97 33 S 1 1 (bX b.dZ b.l.n b.cap) ?_|refine jr 37 99 3 S 1 HA.o ?_)|with_reducible refine js 99 6 38 S 0 HB.o (fT _) λW S=>?_|(go_at_call 112;refine Be S (C9.o _ S.b) λW B c HB HC HF S=>?_)|((with_reducible refine s6 ?_);go_must (refine oY S 0 rfl rfl rfl nT rfl ?_;exact⟨_,rfl,⟨c,rfl,HC.o,S.jJ HF.o⟩,S.b⟩)))
   . have h5: ¬(32:Int)<=(b.l.n:Int):=by have:=HL.o;omega
     go_upto_region 9 with(first|(with_reducible refine jl 34 97 33 S 1 1 (bX b.dZ b.l.n b.cap) ?_))
     have C6:=cz (C2.o cT hfu);cases hn2:k8 b.t.cU cT with
     | some j=>
      obtain rfl: (b.t,171)=T:=by rw[<-HT.o];unfold im;rw[hv];simp only[hn,h4,mq,hn2]
      rw[hn2] at C6;simp only[lF] at C6
      go_wp2_with (first|(with_reducible first|refine jr 39 99 3 S 1 HA.o ?_|refine jr 43 99 3 S 1 HA.o ?_)|with_reducible refine js 99 6 44 S 0 HB.o (fT _) λW S=>?_|(go_at_call 113;refine je S (C6.o _ S.b) λW S=>?_)|(go_at_call 112;refine Be S (C9.o _ S.b) λW B c HB HC HF S=>?_)|((with_reducible refine s6 ?_);go_must (refine oY S 0 rfl rfl rfl nT rfl ?_;exact⟨_,rfl,⟨c,rfl,HC.o,S.jJ HF.o⟩,S.b⟩)))
     | none=>
      rw[hn2] at C6;simp only[lF] at C6;obtain⟨x,hx⟩:=we hn;have hil:=(nB.1 hx).1;have hil2: (i:Int)< (b.l.n:Int):=cN;have hg:dH b.t.cU i=x.todw:=lG hx;obtain⟨bb,oo,hbo⟩: ∃bb oo,b.dZ=s_ bb oo:=by
       obtain⟨_,_,e1,_,h⟩:=dP R.1;unfold dW.sv at e1;simp only[ly] at e1;obtain⟨h1,o1,h2⟩:=h cN;exact⟨h1,o1,by rw[e1.1];exact h2⟩
      have HBV:Hid (dO b 1=bX (s_ bb oo) b.l.n b.cap):=cz (by rw[<-hbo];rfl);have R9:gu w (bX (s_ bb oo) b.l.n b.cap) b.l:=by have:=R;unfold iT dW.sv at this;rwa [hbo] at this
      have HX:=cz (R9.at hx);have HR9:=cz R9;have C8:=cz (C7.o x.id);have hsv:b.sv=bX (s_ bb oo) b.l.n b.cap:=by unfold dW.sv;rw[hbo]
      rw[hsv] at C8;obtain⟨fl,hfl⟩:=dI (gj (eM b.l) x.id);rw[hfl] at C8
      go_upto_region 12 with(first|(with_reducible first|refine jr 39 99 3 S 1 HA.o ?_|refine jo 50 82 49 ((HX.o.cP S.b).c0) ?_)|(go_at_call 113;refine je S (C6.o _ S.b) λW S=>?_)|((with_reducible refine Wj ?_);refine EC S 1 rfl 1 (v:=bX (s_ bb oo) b.l.n b.cap) HBV.o ?_))
      by_cases h6:cR<1∨281474976710655<cR∨cR<=gj b.t.cU (dH b.t.cU i).id
      . obtain rfl: (b.t,176)=T:=by rw[<-HT.o];unfold im;rw[hv];simp only[hn,h4,mq,hn2,h6,oR]
        rw[hg] at h6;rw[show gj b.t.cU x.id=fl from hfl] at h6;by_cases h7:cR<1
        . have h8: ((cR:Int)<1):=cN
          go_wp2_with (first|(with_reducible refine jr 65 99 3 S 1 HA.o ?_)|with_reducible refine js 99 6 66 S 0 HB.o (fT _) λW S=>?_|(go_at_call 112;refine Be S (C9.o _ S.b) λW B c HB HC HF S=>?_)|((with_reducible refine s6 ?_);go_must (refine oY S 0 rfl rfl rfl nT rfl ?_;exact⟨_,rfl,⟨c,rfl,HC.o,S.jJ HF.o⟩,S.b⟩)))
        . have h8: ¬((cR:Int)<1):=cN;by_cases h9:281474976710655<cR
          . have h10: ((281474976710655:Int)< (cR:Int)):=cN
            go_wp2_with (first|(with_reducible refine jr 65 99 3 S 1 HA.o ?_)|with_reducible refine js 99 6 66 S 0 HB.o (fT _) λW S=>?_|(go_at_call 112;refine Be S (C9.o _ S.b) λW B c HB HC HF S=>?_)|((with_reducible refine s6 ?_);go_must (refine oY S 0 rfl rfl rfl nT rfl ?_;exact⟨_,rfl,⟨c,rfl,HC.o,S.jJ HF.o⟩,S.b⟩)))
          . have h10: ¬((281474976710655:Int)< (cR:Int)):=cN;have h11: ((cR:Int)<=(fl:Int)):=cN
            go_wp2_with (first|(with_reducible refine jr 65 99 3 S 1 HA.o ?_)|with_reducible refine js 99 6 66 S 0 HB.o (fT _) λW S=>?_|((with_reducible refine Wj ?_);refine EC S 1 rfl 1 (v:=bX (s_ bb oo) b.l.n b.cap) HBV.o ?_)|(go_at_call 114;refine je S (C8.o _ S.b) λW S=>?_)|(go_at_call 112;refine Be S (C9.o _ S.b) λW B c HB HC HF S=>?_)|((with_reducible refine s6 ?_);go_must (refine oY S 0 rfl rfl rfl nT rfl ?_;exact⟨_,rfl,⟨c,rfl,HC.o,S.jJ HF.o⟩,S.b⟩)))
      . rw[hg] at h6;obtain rfl: (⟨iR b.next,(eM b.l++[{x.todw with id:=b.next,name:=dz,dz:=cx,cY:=x.id,cR:=cR}]).set i {x.todw with dB:=b.next,di:=[]}⟩,0)=T:=by
         rw[<-HT.o];unfold im;rw[hv];simp only[hn,h4,mq,hn2,hg,h6];rfl
        rw[show gj b.t.cU x.id=fl from hfl] at h6;have h8: ¬((cR:Int)<1):=cN;have h10: ¬((281474976710655:Int)< (cR:Int)):=cN;have h11: ¬((cR:Int)<=(fl:Int)):=cN;obtain⟨E,hE⟩:=fP (cL 11 (iw x));have hxx:=(nB.1 hx).2;have hsub:=cz (nD b.l hil (A:=E) (by rw[hxx];exact hE));have hm:=kA hx;have CC:=cz λW (hb:dR w W)=>qy x E hE (hd.at hm).1 W ((HR.o.cP hb).2 x hm);have HE:=cz hE;have HXE:Hid (b.l[i]'hil=x):=cz hxx;clear hE hxx hm hx hg hn hn2 hv hfl h6
        go_upto_region 17 with(first|(with_reducible first|refine jl 74 82 73 S 2 0 (bU ct b.next) ?_|refine jr 83 99 3 S 2 HA.o ?_|refine jr 84 109 13 S 0 HE2.o ?_)|(with_reducible first|refine jb 13 109 S xO pS λW S=>?_|refine js 109 13 72 S 0 HB.o (mI _) λW S=>?_|refine jb 14 99 S sU ot λW S=>?_|refine js 99 14 85 S 0 HB3.o (fT _) λW S=>?_)|((with_reducible refine Wj ?_);first | refine EC S 1 rfl 1 (v:=bX (s_ bb oo) b.l.n b.cap) HBV.o ?_ | refine AD (HR9.o.cP S.b).1 hil (vu HE) hsub.o ?_)|(go_at_call 114;refine je S (C8.o _ S.b) λW S=>?_)|(go_at_call 115;refine(CC.o _ S.b).mono ?_;rintro e W5 ⟨B,y,rfl,hB,hY,hb⟩;have HB:=cz hB;have HFy:=cz (show rH w.h.s y from λhn b hb=>iE S.fr.size ((sH.of hY.2).2 hn b hb));replace S:=S.Bd hb hY.2;have HY:=cz hY.1;clear hb hB hY)|((with_reducible refine tM 82 78 74 ?_);refine vz S 0 rfl 0 (v:=bU ct b.next) rn rfl rfl rfl fZ λW S=>?_)|((with_reducible refine tM 9 79 75 ?_);refine vz S 0 rfl 1 (v:=bY dz) rn rfl rfl rfl Gt λW S=>?_)|((with_reducible refine adR 4 80 ?_);refine vz S 0 rfl 2 (v:=bZ cx) rn rfl rfl rfl tT λW S=>?_)|((with_reducible refine tM 82 81 76 ?_);refine vz S 0 rfl 3 (v:=bU ct x.id) rn rfl rfl rfl fZ λW S=>?_)|((with_reducible refine tM 82 82 77 ?_);refine vz S 0 rfl 5 (v:=bU ct cR) rn rfl rfl rfl fZ λW S=>?_;obtain⟨ys,hys⟩: ∃ys:dL,ys=⟨⟨b.next,dz,cx,x.id,y.dB,cR,y.blocks,y.cO,y.di⟩,y.dZ,y.cap⟩:=⟨_,rfl⟩;have HYS:=cz hys;replace S:=S.xN (k:=0) rfl (g:=iw ys) (λi hi=>by have hi:i<11:=hi;rw[hys];rcases i with(_|_|_|_|_|_|_|_|_|_|_|i) <;> first | rfl);obtain⟨E2,hE2⟩:=fP (cL 11 (iw ys));have HE2:=cz hE2;have C4:=cz (C3.o ys E2 hE2);clear hys hE2)|(go_at_call 116;refine(C4.o _ S.b).mono ?_;rintro e W8 ⟨B3,m,ao2,c,rfl,hB,hm,ho,hd2,hb⟩;obtain⟨g,c',hgc⟩:=DI ho (succ_pos _);simp only[ly] at hgc;obtain⟨rfl,-,rfl⟩:=hgc;obtain⟨M5,hM5⟩:=fP (m++[ys]);have hKl:m.n+1=M5.n:=(by rw[hM5,ji];rfl);rw[<-hM5,hKl] at ho;rw[<-hM5] at hB;have HB3:=cz hB;have HM:=cz hm;have HF:=cz (show ∀x∈m,rH w.h.s x from λx hx hn b h9=>iE S.fr.size ((hd2 x hx).2 hn b h9));have hyd:ys.dv=y.dv/\ys.di=y.di:=(by rw[HYS.o];exact⟨rfl,rfl⟩);have hyx:J' ys _ _:=(by have:=S.x.2;unfold J' at this ⊢;rwa [<-hyd.1,<-hyd.2] at this);replace S:=S.Mz hb ho (λx hx=>by rw[hM5] at hx;rcases gH.1 hx with h | h;exact(hd2 x h).1;rw[fM.1 h];exact hyx.1.cP hb) (λx hx hn b h9 h8=>by rw[hM5] at hx;rcases gH.1 hx with h | h;have:=(hd2 x h).2 hn b h9;have:=S.lt b h8;omega;rw[fM.1 h] at hn h9;exact hyx.2 hn b h9 h8);have HK:=cz hM5;have HKL:=cz hKl;clear hb hB ho hd2 hm hM5 hKl hyd hyx))
        have hml:m.n=b.l.n:=by have:=gD length HM.o;rwa [iu,iu] at this
        have him:i<m.n:=cN;obtain⟨z,hz⟩:=dI (m[i]);have hzx:z.todw=x.todw:=by
         have h9: (eM m)[i]? =(eM b.l)[i]?:=by rw[HM.o]
         rw[mZ,mZ,jE him,hz,jE hil,HXE.o] at h9;exact wT h9
        have HZX:=cz hzx;have hKi:i<M5.n:=by have:=HKL.o;omega
        have hKz:M5[i]=z:=by
         have h9:M5[i]? =cu z:=by rw[HK.o,IX him,jE him,hz]
         rw[jE hKi] at h9;exact wT h9
        have HKZ:=cz hKz;have hiK: (i:Int)< (M5.n:Int):=cN;clear hzx hKz hz hml him;refine eR S dC [⟨W8.h.s,99,2,dO ⟨iR b.next,M5,s_ g 0,c⟩⟩,⟨W5.h.s,109,11,iw ys⟩] CI λW S=>?_;refine dh 0 (dE W8.h.s 1) ?_;refine dh 1 (bX (s_ g 0) M5.n c) ?_;refine dh 2 _ ?_;refine dh 3 (dE W8.h.s 1) ?_;refine dh 4 (bX (s_ g 0) M5.n c) ?_;refine dh 5 _ ?_;refine dh 6 (dE W5.h.s 0) ?_;refine gZ 7 (bU ct b.next) rfl (gO (λw h=>by have h9:=cM.cell (h.row 1 rfl) (i:=0) rn;rw[HYS.o] at h9;exact h9) rfl fZ) ?_;refine dh 8 (dE g (i*11)) ?_;refine dh 9 (dE g (i*11+4)) ?_;refine kI 10 λK hK=>?_;refine MC S 0 rfl rfl (i*11+4) (v:=bU ct b.next) (by show i*11+4<M5.n*11;omega) rfl rfl rfl fZ λW S=>?_;refine gq hK ?_;clear hK K;refine dh 11 (dE g (i*11)) ?_;refine dh 12 (dE g (i*11+10)) ?_;refine kI 13 λK hK=>?_;refine MC S 0 rfl rfl (i*11+10) (v:=bX cw 0 0) (by show i*11+10<M5.n*11;omega) rfl rfl rfl ox λW S=>?_;refine gq hK ?_;clear hK K;refine qx ?_;obtain⟨y1,hy1⟩: ∃y1:dL,y1=⟨⟨z.id,z.name,z.dz,z.cY,b.next,z.cR,z.blocks,z.cO,z.di⟩,z.dZ,z.cap⟩:=⟨_,rfl⟩;obtain⟨y2,hy2⟩: ∃y2:dL,y2=⟨⟨z.id,z.name,z.dz,z.cY,b.next,z.cR,z.blocks,z.cO,[]⟩,cw,0⟩:=⟨_,rfl⟩;have hput: ((jh M5).set (i*11+4) (bU ct b.next)).set (i*11+10) (bX cw 0 0)=jh (M5.set i y2):=by
         rw[wh hKi HKZ.o 4 cN _ y1 (λj hj=>by rw[hy1];rcases j with(_|_|_|_|_|_|_|_|_|_|_|j) <;> first | rfl),
          wh (x:=y1) (by rw[xM];exact hKi) (by rw[getElem_set_self]) 10 cN _ y2 (λj hj=>by rw[hy1,hy2];rcases j with(_|_|_|_|_|_|_|_|_|_|_|j) <;> first | rfl | omega),set_set]
        have HPUT:=cz hput;have HY2:=cz hy2;obtain⟨B4,hB4⟩:=fP (cL 2 (dO ⟨iR b.next,M5.set i y2,s_ g 0,c⟩));have hB5:B4=cL 2 (dO ⟨iR b.next,M5,s_ g 0,c⟩):=by rw[hB4];unfold dO dW.sv;simp only[xM]
        have HB4:=cz hB4;have HB5:=cz hB5;have hT1:eM (M5.set i y2)=(eM b.l++[{x.todw with id:=b.next,name:=dz,dz:=cx,cY:=x.id,cR:=cR}]).set i {x.todw with dB:=b.next,di:=[]}:=by
         rw[HK.o];obtain⟨-,-,-,-,e5,-,e7,e8,e9⟩:=Jr HY.o;obtain⟨f1,f2,f3,f4,-,f6,f7,f8,-⟩:=Jr HZX.o;exact aeg (x:=z) HM.o (by rw[HYS.o,e5,e7,e8,e9]) (by rw[hy2,f1,f2,f3,f4,f6,f7,f8])
        have hfr: ∀v∈M5.set i y2,rH w.h.s v:=λv hv=>by
         rcases vy hv with h | h
         . rw[HK.o] at h;rcases gH.1 h with h | h
           . exact HF.o v h
           . rw[fM.1 h,HYS.o];exact HFy.o
         . rw[h,hy2];exact λhn=>absurd hn (ud _)
        have hdl: ∀v∈M5.set i y2,v∈M5∨v=y2:=λv hv=>vy hv;have HFR:=cz hfr;have HDL:=cz hdl;have HT1:=cz hT1;clear hput hy1 hy2 hB4 hB5 hT1 hfr hdl
        go_wp2_with (first|(with_reducible refine jr 98 99 14 S 0 HB5.o ?_)|with_reducible refine js 99 6 98 S 2 HB4.o (fT _) λW S=>?_|((with_reducible refine s6 ?_);go_must (refine oY S 2 rfl rfl rfl nT rfl ?_;exact⟨_,rfl,⟨_,rfl,by unfold dW.t;rw[HT1.o],by have h9:=S.o0;simp only at h9;rw[HPUT.o] at h9;exact⟨by unfold dW.sv;rw[xM];exact h9,λv hv=>⟨by rcases HDL.o v hv with h | h;exact(S.x.2 v h).1;rw[h];exact Ho _ _ (by rw[HY2.o]) (by rw[HY2.o]) (by rw[HY2.o]),HFR.o v hv⟩⟩⟩,S.b⟩)))
theorem abn(l:List dL)(i:Nat):(jh l).take (i*11)=jh (l.take i):=by grind[oz,take_append_drop,xl]
theorem abo(l:List dL)(i:Nat):(jh l).drop (i*11)=jh (l.drop i):=by rcases Nat.lt_or_ge l.n i with h|h;grind[drop_of_length_le,jh,oz];(conv=>lhs;rw[<-Aj i l,xl]);grind[oz]
theorem XS(l:List dL)(c:l.n=n)(d:i<n)(b:List c7)(e:b.n=11):
 (Dw (Dw (jh l) (i*11) ((jh l).drop ((i+1)*11))) ((n-1)*11) b).take ((n-1)*11)=jh (l.eraseIdx i):=by
 have a:(jh l).n=n*11:=by rw[oz,c]
 rw[eraseIdx_eq_take_drop_succ,xl,<-abn,<-abo];apply xK;intro t;rw[getElem?_take];split;next ht=>rw[yP _ _ _ _ (by grind[zR]),cZ cN,yP _ _ _ _ jv,tY,a,Lr,lP,a];grind
 grind
theorem OT(w:cS)(b o c:Nat)(ty:dU)(d:w.there b o 11):(Builtin.clear_ #[97] ty #[bX (cu ⟨b,o,cw⟩) 1 c]).run prog w=.ok (cg #[]) (w.setCells b o (cL 11 (iw nj)).t):=by
 have hv:∀w,(zeroValue 109).run prog w=.ok (bV (cL 11 (iw nj))) w:=xO;have f:(cL 11 (iw nj)).t.n=11:=rfl;have e:=Mf (P:=prog) b o (cL 11 (iw nj)).t 0 w (λj a=>by rw[f] at a;simpa using(d j a).1) (λj a=>by rw[f] at a;simpa using(d j a).2) (λv hv=>by
  grind[oE,mI,Array.all_eq_true_iff_forall_mem])
 simp only[xJ] at e;have g:Builtin.zeroCells (Value.agg (cL 11 (iw nj))).cells 1=cL 11 (iw nj):=dC;simp_all[Builtin.clear_]
theorem DQ(l:List dL)(g c n i j base:Nat)(H:l.n=n)(M:i<n)(O:j=i+1)(w:cS)(ho:w.ownsRow base 109 11 (bX (cu ⟨g,0,cw⟩) n c) n (jh l)):
 CP_ 129 #[bX (cu ⟨g,0,cw⟩) n c,bU cq i,bU cq j] w λe w'=>e=cj (bX (cu ⟨g,0,cw⟩) (n-1) c)/\w'.ownsRow base 109 11 (bX (cu ⟨g,0,cw⟩) (n-1) c) (n-1) (jh (l.eraseIdx i))/\jX g w w':=by
 obtain⟨V,G,I,J,I⟩:=oG RM;have z:n<=c/\c<=maxLen:=by rcases ho.2 with⟨p,_⟩|⟨T,cap,x,p,_,_,X,L,_⟩;cases p;grind
 obtain⟨I,I⟩:=z;obtain⟨a,C⟩:=yB ((jh l).drop (j*11));have b:a.n=(n-j)*11:=by rw[C.o,tY,oz,H,Nat.sub_mul]
 have I:i<=c:=cN;have I:j<=c:=cN;have I:j<=n:=cN;have I:((i:Int)==(j:Int))=cy:=by rw[lR];omega
 have mixed:prog.follows .mixedOrders=cx:=dC;have N:(i:Int)<=(j:Int):=cN;have I:¬c=i+(n-j):=cN;obtain⟨A,I,B⟩:∃A:Addr,(if c=j then cu (⟨g,0,cw⟩:Addr) else cu ⟨g,j*11,cw⟩)=cu A/\Hid (∀t u,a[t]?=cu u->w.drew.cell? (A.add t)=cu u):=by by_cases h:c=j;refine⟨⟨g,0,cw⟩,by simp[h],λt u v=>?_⟩;grind;refine⟨⟨g,j*11,cw⟩,by simp[h],λt u v=>?_⟩;rw[C.o,getElem?_drop] at v;have F:=ho.cells (g:=g) ae _ u v;rw[Addr.add_lit] at F|-;rw[oQ] at F;exact F
 have Y:Hid (a.n=(n-j)*11):=b;have s2:Hid (∀u∈a,u.oneCell'=cx):=λu v=>by rw[C.o] at v;exact abj l u (mS v)
 obtain⟨m,f,Q,N⟩:=Bc ho;have s3:Hid (∀t,t<a.n->(w.drew.cell? ⟨g,0+i*11+t,cw⟩).isSome=cx/\w.drew.frozen? ⟨g,0+i*11+t,cw⟩=cy):=by intro t R;rw[b] at R;rw[oQ];exact nS Q (o:=i*11) (n:=(n-j)*11) cN t R
 obtain⟨s,d⟩:=fP (w.drew.setCells g (0+i*11) a);have q:s.ownsRow base 109 11 (bX (s_ g 0) n c) n (Dw (jh l) (i*11) a):=by rw[d,oQ];exact tt a (i*11) (w:=w.drew) ho
 have y:jX g w s:=by rw[d];exact(show jX g w w.drew from⟨ae,ae,ae,eN _,λ_ _ _=>ae⟩).trans (jX.setCells _ _ _ _)
 have I:∀ty,(Builtin.clear_ #[97] ty #[bX (s_ g ((i+(n-j))*11)) (n-(i+(n-j))) (c-(i+(n-j)))]).run prog s=.ok (cg #[]) (s.setCells g ((i+(n-j))*11) (cL 11 (iw nj)).t):=λty=>by obtain⟨I,f',I,U⟩:=Bc q;rw[show n-(i+(n-j))=1 by omega];exact OT s g _ _ ty (nS I cN)
 have Z:Hid (s=w.drew.setCells g (0+i*11) a):=d;have E:=cz q;have D:=cz y;have K:=cz O;clear q y d Q N b ho O;go_enter func129,ntmps129;go_wp2_with fail;go_region_law_o (refine step_append_room ae (.tmp 22) (.tmp 25) 97 ae 109 V 11 underlying97 G J g 0 i c (by simp[Act.eval,Act.put]) A (n-j) (c-j) a (by simp[Act.eval,Act.put]) Y.o B.o s2.o cN s3.o ?_;rw[<-Z.o]);go_wp2;go_ret;have k:i+(n-j)=n-1:=by have:=K.o;omega
 have r:=tt (cL 11 (iw nj)).t ((i+(n-j))*11) E.o;refine⟨by rw[<-k];rfl,?_,D.o.trans (jX.setCells _ _ _ _)⟩;rw[k] at r|-;have hc:=XS l H M (cL 11 (iw nj)).t ae;rw[C.o,K.o] at r;refine⟨by rw[oz,length_eraseIdx,H,df M],?_⟩;rcases r.2 with⟨p,_⟩|⟨T,cap,x,p,U,V,X,L,h6,Y⟩;cases p;simp only[ly,yz,Addr.mk.injEq] at p;obtain⟨⟨rfl,-,-⟩,-,rfl⟩:=p;refine .inr ⟨g,c,x,ae,U,V,cN,L,h6,?_⟩;rw[<-hc,<-Y,take_take,show min ((n-1)*11) (n*11)=(n-1)*11 by omega]
end
section
variable {ty2:dU}
theorem MD(S:St w0 d l L O X w)(k x:Nat){r b:R4}{p f q:Tmp}(n:L[k]?=cu r)(c:L[x]?=cu b)(h:fn.results=#[.cell p ty,.cell f ty2,.tmp q])(C:a.tmps.getD p undef=bW (cu ⟨r.b,0,cw⟩))(s:a.tmps.getD f undef=bW (cu ⟨b.b,0,cw⟩))(t:kg P ty r.n)(e:kg P ty2 b.n)(B:a.defers=[])(A:R (cj (cg #[bV (cL r.n r.f),bV (cL b.n b.f),a.tmps.getD q undef])) w):bodyPost P fn R .ret a w:=by
 obtain⟨⟨i,m,y⟩,z⟩:=t;obtain⟨⟨j,v,D⟩,E⟩:=e;have o:a.tmps[p]?.getD undef=dE r.b 0:=by simp_all
 have g:a.tmps[f]?.getD undef=dE b.b 0:=by simp_all
 have hv:=Ja (P:=P) w r.b r.t ty (cL r.n r.f) (0,0) i (S.oW n) m jv aG;have u:=Ja (P:=P) w b.b b.t ty2 (cL b.n b.f) (0,0) j (S.oW c) v jv aG;simp_all[iH,results,asAddr]
def St.erased(S:St w0 d l L O X w){c a:Nat}{b:List dL}(h:O[j]?=cu ⟨109,11,bX (cu ⟨g,0,cw⟩) n c,n,jh m⟩)(e:w'.ownsRow w0.h.s 109 11 (bX (cu ⟨g,0,cw⟩) a c) a (jh b))(f:jX g w w'):
 St w0 d l L (O.set j ⟨109,11,bX (cu ⟨g,0,cw⟩) a c,a,jh b⟩) X w':=
 S.grow h (uY f) e ae aD
end
theorem DR(s:List dw)(cT:fF):(∃c:Int,(c !=0)=cx/\nK s cT=(cw,c))∨∃i,k8 s cT=cu i/\nK s cT=(cu i,0):=by unfold nK;split;grind;split<;>grind
theorem Bg{b:dW}(R:iT w b)(h:0<b.l.n):∃a c,b.dZ=cu ⟨a,c,cw⟩:=by obtain⟨_,_,d,_,e⟩:=dP R.1;grind[dW.sv]
theorem iT.cU{b:dW}(R:iT w b){a c:Nat}(h:b.dZ=cu ⟨a,c,cw⟩):gu w (bX (cu ⟨a,c,cw⟩) b.l.n b.cap) b.l:=by grind[iT,dW.sv]
theorem u9(R:uZ w base c)(h:0<c.l.n):∃g,c.dZ=cu ⟨g,0,cw⟩:=by obtain⟨g,a,e⟩:=DI R.1 h;grind[dW.sv]
def fp(b:ee)(cT:fF):ee×dw×Int:=
 match nK b.cU cT with
 |(cw,c)=>(b,oH,c)
 |(cu i,_)=>if 0<(uX b.cU (dH b.cU i).id).1.n then(b,oH,173) else(⟨b.next,b.cU.eraseIdx i⟩,dH b.cU i,0)
theorem Qg(l:List dL)(i:Nat):eM (l.eraseIdx i)=(eM l).eraseIdx i:=by grind[eM,eraseIdx_eq_take_drop_succ,map_take,map_drop]
section
attribute[local irreducible]wpList Code.wp Calls Oper.wp wpAnyH
def KU(b:dW)(A:gE)(X:A=cL 2 (dO b))(C:zn b.t)(cT:fF)(a3:cT.s<=140737488355328)(w:cS)(R:iT w b):
 CP_ 64 #[bV A,bY cT] w λe w'=>∃B D,e=cj (cg #[bV B,bV D,bU cq (fp b.t cT).2.2])/\lY w' w.h.s B (fp b.t cT).1/\zm w' w.h.s D (fp b.t cT).2.1/\dR w w':=by
 have HA:=cz X;have V:=cz R;have F:=cz λW(a:dR w W)=>Jp b A X C cT a3 W (V.o.cP a);have C2:=cz λid W(a:dR w W)=>Qf b.l b.sv id C.len W (V.o.cP a);have C9:=cz λW(a:dR w W)=>qJ b A X C W (V.o.cP a);have hd:rG b.l:=C.2;have a5:=C.len;have S:=qR w;clear X C;obtain⟨T,HT⟩:=sO (fp b.t cT);rw[HT.o];go_enter func64,ntmps64;rcases DR b.t.cU cT with⟨cd,hc,hv⟩|⟨i,hn,hv⟩;obtain rfl:(b.t,oH,cd)=T:=by rw[<-HT.o];unfold fp;rw[hv]
 rw[hv] at F;clear hv;rotate_left;obtain⟨x,Q⟩:=we hn;have L:=(nB.1 Q).1;have a4:(i:Int)<(b.l.n:Int):=cN;have hg:dH b.t.cU i=x.todw:=lG Q;obtain⟨l,o,d⟩:=Bg R cN;have R9:=R.cU d;have a2:=cz R9;have HX:=cz (R9.at Q);have H:=cz Q;have p:Hid (dO b 1=bX (cu ⟨l,o,cw⟩) b.l.n b.cap):=cz (by rw[<-d];rfl);have Z:=cz (C2.o x.id);rw[show b.sv=bX (s_ l o) b.l.n b.cap by unfold dW.sv;rw[d]] at Z;obtain⟨z,t⟩:=dI ((uX (eM b.l) x.id).1);rw[t] at Z;have n:T=if 0<z.n then(b.t,oH,173) else(⟨b.next,(eM b.l).eraseIdx i⟩,x.todw,0):=by rw[<-HT.o,<-t];unfold fp;rw[hv];simp only[hg];rfl
 have k:=cz n;rw[hv] at F;simp only[lF] at F;clear hv hn hg Q d t n;go_upto_region 4 with(first|refine je S (F.o _ S.b) λW S=>?_|refine fL ?_|refine fg λW S=>?_);refine eu S dC λW S=>?_;refine dh 0 (dE w.h.s 1) ?_;refine gZ 1 (bX (s_ l o) b.l.n b.cap) ae (uj S 2 (λ_ h=>h) ae 1 p.o rn ae sS) ?_;refine dh 2 (dE w.h.s 1) ?_;refine gZ 3 (bX (s_ l o) b.l.n b.cap) ae (uj S 2 (λ_ h=>h) ae 1 p.o rn ae sS) ?_;refine dh 4 _ ?_;refine dh 5 (dE l (o+i*11)) ?_;refine dh 6 (dE l (o+i*11)) ?_;refine gZ 7 (bU ct x.id) ae (gO (λw h=>by obtain⟨_,S⟩:=h;exact(HX.o.cP S.b).c0) ae fZ) ?_;refine kI 8 λK s=>?_;go_wp2_with fail;refine ah (Z.o _ S.b) λr W⟨ho,a⟩=>?_;obtain⟨ra,rc,rfl⟩:=dx ho;replace S:=S.cP a;clear a;refine gq s ?_;refine dh 9 (bU cq z.n) ?_;refine dh 10 (bZ (decide (0<(z.n:Int)))) ?_;refine qx ?_;by_cases h0:0<z.n;obtain rfl:T=(b.t,oH,173):=by rw[k.o,df h0]
 have h1:(0:Int)<(z.n:Int):=cN;rotate_left
 . (obtain rfl:T=(⟨b.next,(eM b.l).eraseIdx i⟩,x.todw,0):=by rw[k.o,cZ h0]);(have h1:¬(0:Int)<(z.n:Int):=cN;have w1:IntKind.i64.wrap ((i:Int)+1)=((i+1:Nat):Int):=by rw[kS _ cN];omega);obtain⟨E,Y⟩:=fP (cL 11 (iw x));have U:=(nB.1 H.o).2;have O:=cz (nD b.l L (A:=E) (by rw[U];exact Y));have hm:=kA H.o;have CC:=cz λW(a:dR w W)=>qy x E Y (hd.at hm).1 W ((V.o.cP a).2 x hm);have HE:=cz Y;clear Y U hm h0;go_upto_region 8 with(first|(refine ah (C9.o _ S.b) λB W5⟨⟨⟨cn,m,ca,u⟩,hB,hc,ho⟩,a⟩=>?_;obtain⟨J,f⟩:=ee.mk.inj hc;simp only at J f;subst J;have N:m.n=b.l.n:=(by have h9:=gD length f;rwa [iu,iu] at h9);obtain⟨g,I⟩:=u9 ho amN;simp only at I;subst I;have q:=cz N;have HB:=cz hB;have HM:=cz f;have HF:=cz (S.fresh ho);replace S:=S.kr a ho;clear N;change St _ _ _ _ (⟨109,11,bX (s_ g 0) m.n u,m.n,jh m⟩::_) _ _ at S;clear a hB hc f)|(refine aj (DQ m g u m.n i (i+1) w.h.s ae (by have:=q.o;omega) ae _ S.o0) λW6⟨ho,a⟩=>?_;replace S:=S.erased (j:=0) ae ho a;clear a)|(refine xA S 0 ae 1 (dO ⟨b.next,m.eraseIdx i,s_ g 0,u⟩) (λj hj=>by have hj:j<2:=hj;rcases j with(_|_|j);rfl;show Value.slice _ (m.eraseIdx i).n _=_;rw[length_eraseIdx,df (by have:=q.o;omega)];rfl;omega) rn ae ae ae sS λW S=>?_;obtain⟨G,HG⟩:=yB (cL 2 (dO ⟨b.next,m.eraseIdx i,s_ g 0,u⟩)))|refine fL ?_|refine fg λW S=>?_);refine eR S dC [⟨W5.h.s,99,2,dO ⟨b.next,m.eraseIdx i,s_ g 0,u⟩⟩,⟨w.h.s,99,2,dO b⟩] CI λW S=>?_;refine gZ 0 (bV G) ae (rE aI ae HG.o nT) ?_;refine dh 1 (dE w.h.s 1) ?_;refine gZ 2 (bX (s_ l o) b.l.n b.cap) ae (gO (λw h=>by rw[cM.cell (h.row 1 ae) (i:=1) rn];exact gD cu p.o) ae sS) ?_;refine dh 3 _ ?_;refine dh 4 (dE l (o+i*11)) ?_;refine gZ 5 (bV E) ae (ySl (λw h=>(a2.o.cP h.fr.cP).1) L ae (vu HE) O.o uV) ?_;refine kI 6 λK s=>?_;go_wp2_with fail;(refine(CC.o _ S.b).mono ?_;rintro e W ⟨D,y,rfl,hD,hY,a⟩;have HD:=cz hD;have HY:=cz (And.intro hY.1 iG);replace S:=S.iv a hY.2 ae ae;clear a hD hY;refine gq s ?_;refine kI 7 λK s=>?_;refine kq S 2 ae ae ae HG.o nT (fT _) λW S=>?_;refine gq s ?_;refine kI 8 λK s=>?_;refine kq S 1 ae ae ae HD.o uV (mI _) λW S=>?_;refine gq s ?_;refine dh 9 _ ?_;refine qx ?_;have M:(m.eraseIdx i).n=m.n-1:=by rw[length_eraseIdx,df (by have:=q.o;omega)]);have a1:=cz M;clear M;go_wp2_with (refine MD S 2 1 ae ae ae ae ae nT uV ae ?_;exact⟨_,_,ae,⟨⟨b.next,m.eraseIdx i,s_ g 0,u⟩,ae,by unfold dW.t;rw[Qg,HM.o],⟨by have h9:=S.o1;unfold dW.sv;rw[a1.o];exact h9,λv hv=>⟨(S.x.2 v (BK hv)).1,HF.o v (BK hv)⟩⟩⟩,⟨y,ae,HY.o.1,S.o0⟩,S.b⟩)
 all_goals
  go_wp2_with first|refine je S (F.o _ S.b) λW S=>?_|refine Be S (C9.o _ S.b) λW B c HB HC HF S=>?_|refine fL ?_|refine fg λW S=>?_|(refine MD S 1 0 ae ae ae ae ae nT uV ae ?_;exact⟨_,_,ae,⟨c,ae,HC.o,S.jJ HF.o⟩,sI _ _,S.b⟩)
end
section
variable {x:Nat}
def gl(S:St w0 d l L O X w)(hv:∀w,(zeroValue ty).run P w=.ok (bV Z) w)(b:Z=cL n f)(ho:gV ty=cy)(h:∀E W,St w0 d l (⟨E,ty,n,f⟩::L) O X W->K (a.put (cu dst) (bW (cu ⟨E,0,cw⟩))) W):Oper.wp P ⟨cu dst,.alloc ty,t2,p,af,cw⟩ a w K Q:=
 Ha S hv b ho λW hS=>h _ W hS
theorem aeh(S:St w0 d l L O X w)(j:Nat)(b:O[j]?=cu o){c:Nat}(hv:o.v=bX (cu ⟨g,0,cw⟩) o.n c)(i:Nat)(G:i+z<=o.n*o.z)(D:a.eval (.tmp x)=bW (cu ⟨g,i,cw⟩))(E:a.eval (.tmp y)=bV A)(v:A=cL z f)(s:kg P ty z)(F:∀i,(f i).oneCell'=cx)(h:∀W,St w0 d l L (O.set j ⟨o.e,o.z,o.v,o.n,Dw o.xs i (cL z f).t⟩) X W->K (a.put cw undef) W):Oper.wp P ⟨cw,.store ty (.tmp x) (.tmp y),t2,p,af,cw⟩ a w K Q:=by
 subst v;have k:=S.uS b;rw[hv] at k;obtain⟨m,f',B,H⟩:=Bc k;have e:=nS B (o:=i) (n:=z) cN;have r:(cL z f).t.n=z:=by grind[cW]
 have C:=Mf (P:=P) g i (cL z f).t 0 w (λj b=>by rw[r] at b;simpa using(e j b).1) (λj b=>by rw[r] at b;simpa using(e j b).2) (λu M=>by
  grind[oE,Array.all_eq_true_iff_forall_mem])
 have t:(storeVar ty ⟨g,i,cw⟩ (bV (cL z f))).run P w=.ok () (w.setCells g i (cL z f).t):=by cases I:P.info? ty with|none=>have:=s.2;grind|some it=>(have J:it.s=z:=by have:=s.2;grind);have hc:(Value.agg (cL z f)).cells=cL z f:=rfl;simp_all[storeVar,sizeOf,typeInfo]
 unfold Oper.wp execOp;simp only[D,E,Instr.storeAt,Instr.sureAddr,lh,rR,nW,t];have q:o.v.ownBlock=cu g:=by rw[hv];rfl
 exact h _ (S.grow b (by grind[uY,jX.setCells]) (by grind[tt]) q (.inl q))
end
def Qh(c:k<m.n){x:dL}(f:m[k]=x)(q:cQ)(y:dL)(h:∀i,i<11->iw y i=if 7<=i/\i<10 then dF q (i-7) else iw x i):Dw (jh m) (k*11+7) (cL 3 (dF q)).t=jh (m.set k y):=by refine Mx Bb m c y (by rw[zR,oz]) (λi b=>?_) λi r d g=>?_;unfold Uz;rw[mR (xs:=cL 11 _),dy,df b,h i b,yP _ _ _ _ ams,mT,cW];by_cases a:7<=i/\i<10;rw[df cN,df a,mR (xs:=cL 3 _),dy,df cN,show k*11+i-(k*11+7)=i-7 by omega];rw[cZ cN,cZ a,nD m c (A:=cL 11 (iw x)) (by rw[f]) i b,dy,df b];rw[yP _ _ _ _ ams,mT,cW,cZ (λe=>?_)];rfl;omega
def cM.setAt{x:dL}(h:cM w b 109 11 (iw x)):nE w b 0 x:=λk a=>by rw[oQ];exact cM.cell h a
def jI(b:ee)(cT:fF):ee×dw×Int:=
 match nK b.cU cT with
 |(cw,c)=>(b,oH,c)
 |(cu i,_)=>match fj b.cU (dH b.cU i).dB with
  |none=>(b,oH,174)
  |some j=>(⟨b.next,b.cU.set i {dH b.cU i with cO:=(dH b.cU j).cO,di:=[]}⟩,dH b.cU i,0)
section
attribute[local irreducible]wpList Code.wp Calls Oper.wp wpAnyH
def RT (b:dW)(A:gE)(hA:A=cL 2 (dO b))(hf:zn b.t)(cT:fF)(hfu:cT.s<=140737488355328)(w:cS)(R:iT w b):
 CP_ 101 #[bV A,bY cT] w λe w'=>∃B D,e=cj (cg #[bV B,bV D,bU cq (jI b.t cT).2.2])/\lY w' w.h.s B (jI b.t cT).1/\zm w' w.h.s D (jI b.t cT).2.1/\dR w w':=by
 have HA:=cz hA;have HR:=cz R;have C1:=cz λW (hb:dR w W)=>Jp b A hA hf cT hfu W (HR.o.cP hb);have C2:=cz λid W (hb:dR w W)=>Kc b.l b.sv id hf.len hf.2 W (HR.o.cP hb);have C9:=cz λW (hb:dR w W)=>qJ b A hA hf W (HR.o.cP hb);have hd:rG b.l:=hf.2;have hlen:=hf.len;have S:=qR w;clear hA hf;obtain⟨T,hT⟩:=dI (jI b.t cT);have HT:=cz hT;rw[hT];clear hT;go_enter func101,ntmps101;rcases DR b.t.cU cT with⟨cd,hc,hv⟩ | ⟨i,hn,hv⟩
 . obtain rfl: (b.t,oH,cd)=T:=by rw[<-HT.o];unfold jI;rw[hv]
   rw[hv] at C1;clear hv
   go_wp2_with (first|(refine je S (C1.o _ S.b) λW S=>?_)|(refine Be S (C9.o _ S.b) λW B c HB HC HF S=>?_)|(refine MD S 1 0 rfl rfl rfl rfl rfl nT uV rfl ?_;exact⟨_,_,rfl,⟨c,rfl,HC.o,S.jJ HF.o⟩,sI _ _,S.b⟩)|refine fL ?_|refine fg λW S=>?_)
 . obtain⟨x,hx⟩:=we hn;have hil:=(nB.1 hx).1;have hil2: (i:Int)< (b.l.n:Int):=cN;have hg:dH b.t.cU i=x.todw:=lG hx;obtain⟨bb,oo,hbo⟩:=Bg R cN;have R9:=R.cU hbo;have HR9:=cz R9;have HX:=cz (R9.at hx);have HXI:=cz hx;have HBV:Hid (dO b 1=bX (cu ⟨bb,oo,cw⟩) b.l.n b.cap):=cz (by rw[<-hbo];rfl);have C3:=cz (C2.o x.dB);rw[show b.sv=bX (s_ bb oo) b.l.n b.cap by unfold dW.sv;rw[hbo]] at C3;obtain⟨pn,hpn⟩:=dI (fj (eM b.l) x.dB);rw[hpn] at C3;obtain⟨pb,hpb⟩:=dI pn.isSome;rw[hpb] at C3;have HPB:=cz hpb;have hres:T=pn.elim (b.t,oH,174) λj=>(⟨b.next,(eM b.l).set i {x.todw with cO:=(dH (eM b.l) j).cO,di:=[]}⟩,x.todw,0):=by
    rw[<-HT.o,<-hpn];unfold jI;rw[hv];simp only[hg];rw[show b.t.cU=eM b.l from rfl];cases fj (eM b.l) x.dB <;> rfl
   have HRES:=cz hres;rw[hv] at C1;simp only[lF] at C1;clear hv hn hg hx hbo hpn hres hpb;obtain⟨E,hE⟩:=fP (cL 11 (iw x));have hxx:b.l[i]'hil=x:=(nB.1 HXI.o).2;have hsub:=cz (nD b.l hil (A:=E) (by rw[hxx];exact hE));have hm:=kA HXI.o;have CC:=cz λW (hb:dR w W)=>qy x E hE (hd.at hm).1 W ((HR.o.cP hb).2 x hm);have HE:=cz hE;have HXX:=cz hxx;clear hE hxx hm
   go_upto_region 4 with(first|(refine je S (C1.o _ S.b) λW4 S=>?_)|refine fL ?_|refine fg λW S=>?_)
   refine eR S dC [⟨w.h.s,99,2,dO b⟩] CI λW S=>?_;refine dh 0 (dE w.h.s 1) ?_;refine gZ 1 (bX (s_ bb oo) b.l.n b.cap) rfl (gO (λw h=>by rw[cM.cell (h.row 0 rfl) (i:=1) rn];exact gD cu HBV.o) rfl sS) ?_;refine dh 2 (dE w.h.s 1) ?_;refine gZ 3 (bX (s_ bb oo) b.l.n b.cap) rfl (gO (λw h=>by rw[cM.cell (h.row 0 rfl) (i:=1) rn];exact gD cu HBV.o) rfl sS) ?_;refine dh 4 _ ?_;refine dh 5 (dE bb (oo+i*11)) ?_;refine dh 6 (dE bb (oo+i*11+4)) ?_;refine gZ 7 (bU ct x.dB) rfl (gO (λw h=>(HX.o.cP h.fr.cP).c4) rfl fZ) ?_
   repeat' first|refine Te ?_|refine nA 9 _ ?_|refine nA 10 (bV B) ?_|refine nA 11 (bZ pb) ?_|refine nA 14 _ ?_|refine BE 8 12 (λK hK=>?_) λK hK=>?_|refine qg 8 λK hK=>?_|refine qg 13 λK hK=>?_|refine qg 12 λK hK=>?_|(refine gl S xO pS rfl λE9 W S=>?_;refine gq hK ?_;clear hK K)|(go_wp2_with fail;refine(C3.o _ S.b).mono ?_;rintro e W6 ⟨B,rfl,⟨pv,hB,hpv,hpo⟩,hb⟩;have HB:=cz hB;have HPV:=cz hpv;replace S:=S.cP hb;clear hb hB hpv hpo;refine gq hK ?_;clear hK K)|(refine kq S 0 rfl rfl rfl HB.o uV (mI _) λW S=>?_;refine gq hK ?_;clear hK K)
   all_goals (
    refine cz ?_;cases pb with
    | false=>
     obtain rfl:T=(b.t,oH,174):=by
      have h9:=HRES.o;cases pn with
      | none=>exact h9
      | some j=>exact absurd HPB.o eQ
     go_wp2_with (first|(refine Be S (C9.o _ S.b) λW B c HB HC HF S=>?_)|(refine MD S 2 1 rfl rfl rfl rfl rfl nT uV rfl ?_;exact⟨_,_,rfl,⟨c,rfl,HC.o,S.jJ HF.o⟩,sI _ _,S.b⟩)|refine fL ?_|refine fg λW S=>?_)
    | true=>
     obtain⟨j,rfl⟩: ∃j,pn=cu j:=by
      cases pn with
      | none=>exact absurd HPB.o eQ
      | some j=>exact⟨j,rfl⟩
     obtain rfl:T=(⟨b.next,(eM b.l).set i {x.todw with cO:=(dH (eM b.l) j).cO,di:=[]}⟩,x.todw,0):=HRES.o;obtain⟨rt,hrt⟩:=dI pv.cO;have HRT:=cz hrt;have HR2:Hid ((dH (eM b.l) j).cO=rt):=cz (by rw[<-hrt];exact(gD dw.cO HPV.o).symm);obtain⟨G,hG⟩:=fP (cL 3 (dF pv.cO));have HG:=cz hG;have HG2:Hid (G=cL 3 (dF rt)):=cz (by rw[hG,hrt]);clear hrt hG
     go_upto_region 8 with(first|(refine(C9.o _ S.b).mono ?_;rintro e W5 ⟨B3,rfl,⟨⟨cn,m,ca,cc⟩,hB,hc,ho⟩,hb⟩;obtain⟨hcn,hcs⟩:=ee.mk.inj hc;simp only at hcn hcs;subst hcn;have hml:m.n=b.l.n:=(by have h9:=gD length hcs;rwa [iu,iu] at h9);obtain⟨g,hca⟩:=u9 ho (by show 0<m.n;omega);simp only at hca;subst hca;have HML:=cz hml;have HB3:=cz hB;have HM:=cz hcs;have HF:=cz (S.fresh ho);replace S:=S.kr hb ho;clear hml;change St _ _ _ _ (⟨109,11,bX (s_ g 0) m.n cc,m.n,jh m⟩::_) _ _ at S;clear hb hB hc ho hcs)|refine fL ?_|refine fg λW S=>?_)
     have him: (i:Int)< (m.n:Int):=by have:=HML.o;omega
     have him2:i<m.n:=cN;refine eR S dC [⟨W5.h.s,99,2,dO ⟨b.next,m,s_ g 0,cc⟩⟩,⟨E9,109,11,iw pv⟩] CI λW S=>?_;refine dh 0 (dE W5.h.s 1) ?_;refine dh 1 (bX (s_ g 0) m.n cc) ?_;refine dh 2 _ ?_;refine dh 3 (dE W5.h.s 1) ?_;refine dh 4 (bX (s_ g 0) m.n cc) ?_;refine dh 5 _ ?_;refine dh 6 (dE E9 7) ?_;refine gZ 7 (bV G) rfl (UG (λw h=>(h.row 1 rfl).setAt) rfl HG.o) ?_;refine dh 8 (dE g (i*11)) ?_;refine dh 9 (dE g (i*11+7)) ?_;refine kI 10 λK hK=>?_;refine aeh S 0 rfl rfl (i*11+7) (z:=3) (by show i*11+7+3<=m.n*11;omega) rfl rfl HG2.o fK (dJ _) λW S=>?_;refine gq hK ?_;clear hK K;refine dh 11 (dE g (i*11)) ?_;refine dh 12 (dE g (i*11+10)) ?_;refine kI 13 λK hK=>?_;refine MC S 0 rfl rfl (i*11+10) (v:=bX cw 0 0) (by show i*11+10<m.n*11;omega) rfl rfl rfl ox λW S=>?_;refine gq hK ?_;clear hK K;refine qx ?_;obtain⟨z,hz⟩:=dI (m[i]);have hzx:z.todw=x.todw:=by
      have h9: (eM m)[i]? =(eM b.l)[i]?:=by rw[HM.o]
      rw[mZ,mZ,jE him2,hz,jE hil,HXX.o] at h9;exact wT h9
     obtain⟨y1,hy1⟩: ∃y1:dL,y1=⟨⟨z.id,z.name,z.dz,z.cY,z.dB,z.cR,z.blocks,rt,z.di⟩,z.dZ,z.cap⟩:=⟨_,rfl⟩;obtain⟨y2,hy2⟩: ∃y2:dL,y2=⟨⟨z.id,z.name,z.dz,z.cY,z.dB,z.cR,z.blocks,rt,[]⟩,cw,0⟩:=⟨_,rfl⟩;have hput: (Dw (jh m) (i*11+7) (cL 3 (dF rt)).t).set (i*11+10) (bX cw 0 0)=jh (m.set i y2):=by
      rw[Qh him2 hz rt y1 (λj hj=>by rw[hy1];rcases j with(_|_|_|_|_|_|_|_|_|_|_|j) <;> first | rfl),
       wh (x:=y1) (by rw[xM];exact him2) (by rw[getElem_set_self]) 10 cN _ y2 (λj hj=>by rw[hy1,hy2];rcases j with(_|_|_|_|_|_|_|_|_|_|_|j) <;> first | rfl | omega),set_set]
     have hB4:B3=cL 2 (dO ⟨b.next,m.set i y2,s_ g 0,cc⟩):=by rw[HB3.o];unfold dO dW.sv;simp only[xM]
     have hT1:eM (m.set i y2)=(eM b.l).set i {x.todw with cO:=(dH (eM b.l) j).cO,di:=[]}:=by
      obtain⟨f1,f2,f3,f4,f5,f6,f7,f8,-⟩:=Jr hzx;rw[HR2.o,<-HM.o];unfold eM;rw[map_set];congr 1;rw[hy2,f1,f2,f3,f4,f5,f6,f7]
     have HFR:=cz (show ∀v∈m.set i y2,rH w.h.s v from λv hv=>by
      rcases vy hv with h | h
      . exact HF.o v h
      . rw[h,hy2];exact λhn=>absurd hn (ud _))
     have HDL:=cz (show ∀v∈m.set i y2,v∈m∨v=y2 from λv hv=>vy hv);have HPUT:=cz hput;have HB4:=cz hB4;have HT1:=cz hT1;have HY2:=cz hy2;clear hput hB4 hT1 hy1 hy2 hzx hz
     go_upto_region 9 with(fail)
     refine eR S dC [⟨W5.h.s,99,2,dO ⟨b.next,m,s_ g 0,cc⟩⟩,⟨w.h.s,99,2,dO b⟩] CI λW S=>?_;refine gZ 0 (bV B3) rfl (rE (λw h=>h.row 0 rfl) rfl HB3.o nT) ?_;refine dh 1 (dE w.h.s 1) ?_;refine gZ 2 (bX (s_ bb oo) b.l.n b.cap) rfl (gO (λw h=>by rw[cM.cell (h.row 1 rfl) (i:=1) rn];exact gD cu HBV.o) rfl sS) ?_;refine dh 3 _ ?_;refine dh 4 (dE bb (oo+i*11)) ?_;refine gZ 5 (bV E) rfl (ySl (λw h=>(HR9.o.cP h.fr.cP).1) hil rfl (vu HE) hsub.o uV) ?_;refine kI 6 λK hK=>?_
     go_wp2_with fail
     refine(CC.o _ S.b).mono ?_;rintro e W ⟨D,y,rfl,hD,hY,hb⟩;have HD:=cz hD;have HY:=cz (And.intro hY.1 iG);replace S:=S.iv hb hY.2 rfl rfl;clear hb hD hY;refine gq hK ?_;clear hK K;refine kI 7 λK hK=>?_;refine kq S 3 rfl rfl rfl HB4.o nT (fT _) λW S=>?_;refine gq hK ?_;clear hK K;refine kI 8 λK hK=>?_;refine kq S 2 rfl rfl rfl HD.o uV (mI _) λW S=>?_;refine gq hK ?_;clear hK K;refine dh 9 _ ?_;refine qx ?_
     go_wp2_with (refine MD S 3 2 rfl rfl rfl rfl rfl nT uV rfl ?_;exact⟨_,_,rfl,⟨_,rfl,by unfold dW.t;rw[HT1.o],by have h9:=S.o1;simp only at h9;rw[HPUT.o] at h9;exact⟨by unfold dW.sv;rw[xM];exact h9,λv hv=>⟨by rcases HDL.o v hv with h | h;exact(S.x.2 v h).1;rw[h];exact Ho _ _ (by rw[HY2.o]) (by rw[HY2.o]) (by rw[HY2.o]),HFR.o v hv⟩⟩⟩,⟨y,rfl,HY.o.1,S.o0⟩,S.b⟩)
   )
end
def wi(a:Nat):List cQ->List cQ×List cQ->Option (List cQ×List cQ)
 | [],s=>cu s
 |q::l,s=>if a<q.2.1 then wi a l (s.1,s.2++[q]) else match rF s.1 q with
  |none=>cw
  |some m=>if 4000<m.n then cw else wi a l (m,s.2)
def DS(a:Nat)(q:cQ)(l:List cQ)(s:List cQ×List cQ):wi a (q::l) s=if a<q.2.1 then wi a l (s.1,s.2++[q]) else match rF s.1 q with|none=>cw|some m=>if 4000<m.n then cw else wi a l (m,s.2):=rfl
def jT(b:ee)(id:Nat)(l:List cQ):ee×List cQ×Int:=
 match fj b.cU id with
 |none=>(b,[],172)
 |some i=>match wi (gj b.cU id) l ((dH b.cU i).di,[]) with
  |none=>(b,[],131)
  |some (d,g)=>(⟨b.next,b.cU.set i {dH b.cU i with di:=d}⟩,g,0)
section
theorem zp{base:Nat}{e:dU}{z g n cap:Nat}{xs:List c7}(h:w.ownsRow base e z (bX (cu ⟨g,0,cw⟩) n cap) n xs){j:Nat}{v:c7}(a:xs[j]?=cu v):w.cell? ⟨g,j,cw⟩=cu v:=by have:=h.cells (g:=g) ae j v a;grind[Addr.add]
def agI(m:List dL){x:dL}(c:m[i]?=cu x)(a:k<11):(jh m)[i*11+k]?=cu (iw x k):=by obtain⟨b,rfl⟩:=nB.1 c;rw[nD m b ae k a,dy,df a]
end
section
attribute[local irreducible]wpList Code.wp Calls Oper.wp wpAnyH
def RU(b:dW)(A:gE)(hA:A=cL 2 (dO b))(hf:zn b.t)(id:Nat)(l:List cQ)(v:c7)(hl:l.length<=1000000)(w:cS)(R:iT w b)(RL:lk w v l):
 CP_ 144 #[.agg A,.int .u64 id,v] w λe w'=>∃B r,e=.returned (.tuple #[.agg B,r,.int .i64 (jT b.t id l).2.2])/\lY w' w.heap.size B (jT b.t id l).1/\il w' w.heap.size r (jT b.t id l).2.1/\dR w w':=by
 have HA:=cz hA;have HR:=cz R;obtain⟨la,lc,rfl,hlc,hla⟩:=dP RL;have RL:=cz RL;have hla:=cz hla;have C1:=cz λW(hb:dR w W)=>wH b.l b.sv id hf.len W (HR.o.cP hb);have C2:=cz λW(hb:dR w W)=>EJ b.l b.sv id hf.len W (HR.o.cP hb);have C9:=cz λW(hb:dR w W)=>qJ b A hA hf W (HR.o.cP hb);have hd:rG b.l:=hf.2;have hlen:=hf.len;have S:=qR w;clear hA hf;obtain⟨T,HT⟩:=sO (jT b.t id l);rw[HT.o];go_enter func144,ntmps144;cases hp:fj (eM b.l) id with
 |none=>
  obtain rfl:(b.t,[],172)=T:=by rw[<-HT.o];unfold jT;rw[show b.t.cU=eM b.l from ae,hp]
  rw[hp] at C1;simp only[lF] at C1;clear hp;go_wp2_with first|(first|refine jl 18 97 17 S 1 1 (b.sv) ?_|refine jr 23 99 3 S 1 HA.o ?_)|(first|refine jx 3 99 0 S HA.o λW S=>?_|refine jb 6 99 S sU ot λW S=>?_|refine js 99 6 24 S 0 HB.o (fT _) λW S=>?_)|refine je S (C1.o _ S.b) λW S=>?_|refine Be S (C9.o _ S.b) λW B c HB HC HF S=>?_|((with_reducible refine s6 ?_);go_must (refine G9 S 0 ae ae ae nT ae ?_;exact⟨_,_,ae,⟨c,ae,HC.o,S.jJ HF.o⟩,il.nil _ _,S.b⟩))
 |some i=>
  obtain⟨hil,x,hx,-⟩:=kL hp;have hi0:¬((i:Int)<0):=cN;have hg:dH b.t.cU i=x.todw:=lG hx;obtain⟨fl,hfl⟩:=dI (gj (eM b.l) id);obtain⟨KT,HKT⟩:=sO (wi fl l (x.di,[]));have hres:T=KT.elim (b.t,[],131) λs=>(⟨b.next,(eM b.l).set i {x.todw with di:=s.1}⟩,s.2,0):=by
   rw[<-HT.o,<-HKT.o,<-hfl];unfold jT;rw[show b.t.cU=eM b.l from ae,hp];simp only[show dH (eM b.l) i=x.todw from hg];cases wi (gj (eM b.l) id) l (x.di,[])<;>rfl
  have HRES:=cz hres;have hxx:b.l[i]'hil=x:=(nB.1 hx).2;have hdx:=(hd.at (kA hx)).1;have HXX:=cz hxx;rw[hp] at C1;rw[hfl] at C2;simp only[lF] at C1;clear hp hg hfl hres hx hxx
  go_upto_region 8 with(first|(first|refine jl 18 97 17 S 1 1 (b.sv) ?_|refine jl 26 97 25 S 1 1 (b.sv) ?_|refine jr 29 99 3 S 1 HA.o ?_)|(first|refine jb 6 99 S sU ot λW S=>?_|refine jb 11 99 S sU ot λW S=>?_|refine js 99 11 30 S 0 HB3.o (fT _) λW S=>?_)|refine yZ S rfl HA.o rfl λW2 S=>?_|refine je S (C1.o _ S.b) λW S=>?_|refine je S (C2.o _ S.b) λW S=>?_|(refine ah (C9.o _ S.b) λB3 W5⟨⟨⟨cn,m0,ca,cc⟩,hB,hc,ho⟩,hb⟩=>?_;obtain⟨hcn,hcs⟩:=ee.mk.inj hc;simp only at hcn hcs;subst hcn;have hml:m0.length=b.l.length:=(by have h9:=gD length hcs;rwa [iu,iu] at h9);obtain⟨g,hca⟩:=u9 ho (by show 0<m0.length;omega);simp only at hca;subst hca;have HML:=cz hml;have HB3:=cz hB;have HM:=cz hcs;have HF:=cz (S.fresh ho);replace S:=S.kr hb ho;clear hml;change St _ _ _ _ (⟨109,11,.slice (s_ g 0) m0.length cc,m0.length,jh m0⟩::_) _ _ at S;clear hb hB hc hcs))
  have S:=cz (S.Jl 106 3 ae ae);have him:i<m0.length:=by have:=HML.o;omega
  have hbx:(eM b.l)[i]'(by rw[iu];exact hil)=x.todw:=by unfold eM;rw[getElem_map,HXX.o]
  go_loopw [12,33] (λgv kv wr=>∃(k:Nat)(dd gn:List cQ)(m:List dL)(ga:Option Addr)(gc:Nat),k<=l.length/\kv=.int .i64 k/\gv=.slice ga gn.length gc/\dd.length<=1000000/\gn.length<=k/\Hid (wi fl (l.drop k) (dd,gn)=KT/\m.length=m0.length/\eM m=(eM b.l).set i {x.todw with di:=dd}/\(∀v∈m,rH w.heap.size v)/\
   St w none [] [⟨W5.heap.size,99,2,dO ⟨b.next,m0,s_ g 0,cc⟩⟩,⟨W2.heap.size,99,2,dO xm⟩,⟨w.heap.size,99,2,dO b⟩] [⟨106,3,.slice ga gn.length gc,gn.length,iS gn⟩,⟨109,11,.slice (s_ g 0) m0.length cc,m0.length,jh m⟩] (oL m) wr)) (λ_ kv _=>l.length-(intOf kv).toNat)
  case atStart=>exact⟨0,x.di,[],m0,none,0,cN,ae,ae,hdx,by simp,cz ⟨HKT.o,ae,by
   rw[HM.o];show eM b.l=(eM b.l).set i x.todw;rw[<-hbx,set_getElem_self],HF.o,S.o.EY (λ_ _ h=>h.2) (jn m0).mh⟩⟩
  case round=>
   clear S;obtain⟨k,dd,gn,m,ga,gc,hk,rfl,rfl,hdd,hgn,hS⟩:=hrel;obtain⟨hkill,hmm,hsm,hfm,S⟩:=hS.o;clear hS;have HMM:=cz hmm;have HSM:=cz hsm;have HFM:=cz hfm;have him2:i<m.length:=cN;clear hfm;by_cases hlt:k<l.length
   . obtain⟨lb,lo,rfl⟩:=hla.o cN;obtain⟨q,hq⟩:=dI (l[k]);obtain⟨AQ,hAQ⟩:=fP (cL 3 (dF q));have hsub:=cz (kE l hlt (A:=AQ) am4);have HAQ:=cz hAQ;rw[De hlt,hq] at hkill;obtain⟨y,hy⟩:=dI (m[i]);have hym:y∈m:=hy▸mP him2;have hyt:y.todw= {x.todw with di:=dd}:=by
      have h9:(eM m)[i]?=((eM b.l).set i {x.todw with di:=dd})[i]?:=by rw[hsm]
      rw[mZ,jE him2,hy,getElem?_set_self (by rw[iu];exact hil)] at h9;exact wT h9
     have hyd:y.di=dd:=gD dw.di hyt;have hydv:y.dv=.slice y.dZ dd.length y.cap:=by unfold dL.dv;rw[hyd]
     have HY:=cz hy;have HYT:=cz hyt;have HYM:=cz hym;have HYDV:=cz hydv;have HYI:Hid ((jh m)[i*11+10]?=some (.slice y.dZ dd.length y.cap)):=cz (by rw[<-hydv];exact agI m (by rw[jE him2,hy]) cN);have HYD:=cz hyd;clear hy hyt hym hydv hsm hmm hq hAQ;by_cases hfl:fl<q.2.1
     . have hfl2:((fl:Nat):Int)<((q.2.1:Nat):Int):=cN;rw[DS] at hkill;rw[df hfl] at hkill;have HK:=cz hkill;clear hkill
       go_wp2_with first|(first|refine jl 38 82 37 S 0 1 (.int .u64 q.2.1) ?_|refine jr 42 106 14 S 0 HAQ.o ?_)|(first|refine jb 14 106 S xC iO λW S=>?_|refine js 106 14 36 S 0 HAQ.o (dJ _) λW S=>?_)|refine AD (RL.o.cP S.b) hlt (vu HAQ) hsub.o ?_|refine Mg S rfl HAQ.o gX cN rfl λW S=>?_|refine tA S 0 rfl 0 rfl rfl rfl rfl gX (dJ _) CK xZ λg9 c9 W S=>?_
       go_roundw
       case rel=>exact⟨k+1,dd,gn++[q],m,s_ g9 0,c9,cN,by go_num,by simp,hdd,by simp;omega,cz ⟨HK.o,HMM.o,HSM.o,HFM.o,by rw[ji,jk,qe];exact S.pop.pop⟩⟩
       case measure=>exact pR
     . have hfl2:¬((fl:Nat):Int)<((q.2.1:Nat):Int):=cN;have him3:(i:Int)<(m0.length:Int):=by have:=HMM.o;omega
       obtain⟨da,hda⟩:=dI (rF dd q);have C3:=cz λv W R=>Ux dd q v AQ HAQ.o W cN R;rw[hda] at C3;rw[DS] at hkill;rw[cZ hfl] at hkill;simp only[hda] at hkill;have HK:=cz hkill;clear hkill hda
       go_upto_region 12 with(first|(with_reducible refine jl 38 82 37 S 0 1 (.int .u64 q.2.1) ?_)|(with_reducible first|refine jb 14 106 S xC iO λW S=>?_|refine js 106 14 36 S 0 HAQ.o (dJ _) λW S=>?_)|((with_reducible refine Wj ?_);refine AD (RL.o.cP S.b) hlt (vu HAQ) hsub.o ?_))
       refine eu S dC λW S=>?_;refine dh 0 (dE W5.heap.size 1) ?_;refine dh 1 (.slice (s_ g 0) m0.length cc) ?_;refine dh 2 _ ?_;refine dh 3 (dE g (i*11)) ?_;refine dh 4 (dE g (i*11+10)) ?_;refine gZ 5 (.slice y.dZ dd.length y.cap) ae (gO (λw h=>by obtain⟨_,S⟩:=h;exact zp S.o1 HYI.o) ae ox) ?_;refine dh 6 (.agg AQ) ?_;refine kI 7 λK hK=>?_
       go_wp2_with fail
       refine ah (C3.o _ _ (by have h9:=(S.x y HYM.o).1;unfold lk;rw[<-HYDV.o,<-HYD.o];exact h9)) λr W⟨ho,hb⟩=>?_;obtain⟨ra,rc,rfl⟩:=dx ho;have HFy:=cz (show rH w.heap.size ⟨{y.todw with di:=da.getD []},ra,rc⟩ from λhn b hb=>iE S.fr.size ((sH.of (x:=⟨{y.todw with di:=da.getD []},ra,rc⟩) ho).2 hn b hb));replace S:=S.Bd (y:=⟨{y.todw with di:=da.getD []},ra,rc⟩) hb ho;clear hb;refine gq hK ?_;refine dh 8 _ ?_;refine dh 9 (.slice ra (da.getD []).length rc) ?_;refine dh 10 (.int .i64 (gi 131 da)) ?_;refine dh 11 _ ?_;refine dh 12 _ ?_;refine qx ?_;cases da with
       |none=>
        obtain rfl:T=(b.t,[],131):=by rw[HRES.o,<-HK.o];rfl
        go_wp2_with first|(with_reducible refine jr 63 99 3 S 3 HA.o ?_)|with_reducible refine js 99 6 64 S 2 HB.o (fT _) λW S=>?_|(go_at_call 112;refine Be S (C9.o _ S.b) λW B c HB HC HF S=>?_)|((with_reducible refine s6 ?_);go_must (refine G9 S 2 ae ae ae nT ae ?_;exact⟨_,_,ae,⟨c,ae,HC.o,S.jJ HF.o⟩,il.nil _ _,S.b⟩))
       |some mm=>
        simp only[lx] at S HFy|-;simp only at HK;by_cases h4:4000<mm.length
        . obtain rfl:T=(b.t,[],131):=by have h9:=HK.o;rw[df h4] at h9;rw[HRES.o,<-h9];rfl
          have h5:(4000:Int)<(mm.length:Int):=cN
          go_wp2_with first|(with_reducible refine jr 63 99 3 S 3 HA.o ?_)|with_reducible refine js 99 6 64 S 2 HB.o (fT _) λW S=>?_|(go_at_call 112;refine Be S (C9.o _ S.b) λW B c HB HC HF S=>?_)|((with_reducible refine s6 ?_);go_must (refine G9 S 2 ae ae ae nT ae ?_;exact⟨_,_,ae,⟨c,ae,HC.o,S.jJ HF.o⟩,il.nil _ _,S.b⟩))
        . have h5:¬(4000:Int)<(mm.length:Int):=cN;rw[cZ h4] at HK
          go_wp2_with first|(with_reducible refine jl 66 97 65 S 1 1 (.slice (s_ g 0) m0.length cc) ?_)|((with_reducible refine tM 107 70 68 ?_);refine aee S 1 ae ae (i*11+10) (v:=.slice ra mm.length rc) (by show i*11+10<m0.length*11;omega) ae ae ae ox λW S=>?_)
          go_roundw
          case rel=>
           obtain⟨y',hy'⟩:∃y':dL,y'=⟨{y.todw with di:=mm},ra,rc⟩:=⟨_,ae⟩;have hput:(jh m).set (i*11+10) (.slice ra mm.length rc)=jh (m.set i y'):=wh him2 HY.o 10 cN _ y' (λj hj=>by rw[hy'];rcases j with(_|_|_|_|_|_|_|_|_|_|_|j)<;>first|rfl|omega);have hsv:eM (m.set i y')=(eM b.l).set i {x.todw with di:=mm}:=by
            have h1:eM (m.set i y')=(eM m).set i y'.todw:=by unfold eM;rw[map_set]
            rw[h1,HSM.o,set_set,hy'];simp only[HYT.o]
           refine⟨k+1,mm,gn,m.set i y',ga,gc,cN,by go_num,ae,cN,by omega,cz ⟨HK.o,by rw[xM];exact HMM.o,hsv,λv hv=>?_,?_⟩⟩
           . rcases vy hv with h|h
             . exact HFM.o v h
             . rw[h,hy'];exact HFy.o
           . have S:=S.pop;simp only at S;rw[hput,<-hy'] at S;refine S.EY (λB w h v hv=>?_) (jn _).mh;rcases vy hv with h2|h2
             . exact h.1 v h2
             . rw[h2];exact h.2
          case measure=>exact pR
   . obtain rfl:k=l.length:=cN;rw[drop_length] at hkill;obtain rfl:T=(⟨b.next,(eM b.l).set i {x.todw with di:=dd}⟩,gn,0):=by rw[HRES.o,<-hkill];rfl
     obtain⟨B4,hB4⟩:=fP B3;have HBM:Hid (B3=cL 2 (dO ⟨b.next,m,s_ g 0,cc⟩)):=cz (by rw[HB3.o];unfold dO dW.sv;simp only[HMM.o]);clear hkill hmm hsm hB4
     go_wp2_with first|(with_reducible refine jr 72 99 11 S 0 HB3.o ?_)|with_reducible refine js 99 6 72 S 1 HBM.o (fT _) λW S=>?_|((with_reducible refine s6 ?_);go_must (refine G9 S 1 ae ae ae nT ae ?_;exact⟨_,_,ae,⟨⟨b.next,m,s_ g 0,cc⟩,ae,by unfold dW.t;rw[HSM.o],⟨by have h9:=S.o1;unfold dW.sv;rw[HMM.o];exact h9,λv hv=>⟨(S.x v hv).1,HFM.o v hv⟩⟩⟩,S.o0,S.b⟩))
def abp(l:cV)(n:Nat):Option Nat:=l.findIdx? λx=>decide (x=n)
def UH(l:cV)(v:c7)(n:Nat)(z:l.n<=1000000)(w:cS)(R:c8 w 82 1 v l.n (KS l)):tf 161 #[v,bU ct n] w (bU cq (lF (abp l n))):=by
 obtain⟨ao,cap,rfl,q,a⟩:=dP R;have R:=cz R;have a:=cz a;have S:=cz (qR w);go_enter func161,ntmps161;go_upto_region 2 with(fail);go_loopw [8] (λi wr=>∃k:Nat,k<=l.n/\i=bU cq k/\Hid ((∀(j:Nat)y,l[j]?=cu y->j<k->decide (y=n)=cy)/\St w cw [] [] [] (λ_ _=>True) wr)) (λi _=>l.n-(intOf i).m);exact amm;clear S;obtain⟨k,u,rfl,hS⟩:=hrel;by_cases d:k<l.n
 . obtain⟨b,o,rfl⟩:=a.o cN;obtain⟨x,f⟩:∃x,l[k]?=cu x:=⟨_,jE d⟩;have p:Hid (∀W,dR w W->W.cell? ⟨b,o+k,cw⟩=cu (.int ct x)):=cz λW r=>c8.cellAt (R.o.cP r) cN (by unfold KS;rw[rO,f];rfl);have m:=cz f;clear f;rcases BG (x=n) with rfl|he
   . go_wp2_with (with_reducible refine jo 15 82 14 (p.o _ hS.o.2.fr.cP) ?_);go_ret;have e:abp l x=cu k:=Ck m.o (gM ae) hS.o.1;exact amR
   . (have s:(((n:Nat):Int)==((x:Nat):Int))=cy:=by rw[lR];omega);go_wp2_with (with_reducible refine jo 15 82 14 (p.o _ hS.o.2.fr.cP) ?_);go_roundw;refine⟨k+1,cN,by go_num,cz ⟨λj y g t=>?_,hS.o.2⟩⟩;by_cases c:j=k;subst c;rw[m.o] at g;cases g;exact jG he;exact hS.o.1 j y g cN;exact pR
 . obtain rfl:k=l.n:=cN;have e:Hid (abp l n=cw):=cz (Cl hS.o.1);go_wp2;go_ret;exact⟨by rw[e.o];rfl,hS.o.2.fr.cP⟩
def Js(p:dw->Bool)(l:List dL)(v:c7)(j:l.n<=1000000)(g:Nat)(c:gE)(w:cS)(d:∀args w,(callFunc g args).run prog w=.ok (.enter g args) w)(R:gu w v l)(hc:∀(k:Nat)x A W,l[k]?=cu x->A=cL 11 (iw x)->dR w W->CP_ g (#[bV A]++c) W λe w'=>e=cj (bZ (p x.todw))/\dR W w'):
 tf 162 #[v,.func (.func g) #[] c] w (bZ ((eM l).any p)):=by
 have b:=cz (Fo p l v j g c w d R hc);clear hc R;have a:(eM l).any p=((eM l).findIdx? p).isSome:=by rw[findIdx?_isSome]
 rw[a];obtain⟨r,f⟩:=dI ((eM l).findIdx? p);rw[f] at b|-;clear a f d;rcases r with _|k;simp only[lF] at b;rotate_left;simp only[lF] at b;have m:(0:Int)<=(k:Int):=Int.natCast_nonneg k
 all_goals
  go_enter func162,ntmps162
  go_wp2_with (go_at_call 176;refine aj b.o λW i=>?_;have h:=cz i)
  go_ret;exact⟨ae,h.o⟩
def Kd(id:Nat)(a:fF)(s:dw):Bool:=s.dz&&decide (s.cY=id)&&decide (s.name=a)
theorem XT(s t:fF):(s.toList==t.toList)=decide (s=t):=by rw[wM,xL,qS];rw[DL,DL];exact⟨λe=>by obtain⟨⟨x⟩⟩:=s;simp_all,λe=>by rw[e]⟩
def Hp(x y:dL)(A:gE)(v:A=cL 11 (iw x))(id r m e j:Nat)(b:dW)(w:cS)(u:cM w r 82 1 (λ_=>.int .u64 id))(z:cM w m 99 2 (dO b))(f:cM w e 3 1 (λ_=>.int .i64 j))(R:iT w b)(q:b.l[j]?=some y)(C:b.l.length<=1000000):
 tf 163 #[.agg A,.pointer (some ⟨r,0,none⟩),.pointer (some ⟨m,0,none⟩),.pointer (some ⟨e,0,none⟩)] w (.bool (Kd id y.name x.todw)):=by
 have I:=cz v;have G:=(nB.1 q).1;have B:(j:Int)<(b.l.length:Int):=cN;obtain⟨k,l,c⟩:=Bg R cN;have E:=cz ((R.cU c).at q);have o:Hid (dO b 1=.slice (some ⟨k,l,none⟩) b.l.length b.cap):=cz (by rw[<-c];rfl);have s:=cz u;have p:=cz z;have n:=cz f;obtain⟨T,a⟩:=dI (Kd id y.name x.todw);rw[a];clear v u z f c q;have S:=qR w;unfold Kd at a;cases d:x.dz with
 |false=>
  obtain rfl:false=T:=by rw[<-a,d];rfl
  have g:Hid (Value.bool x.dz=.bool false):=cz (by rw[d]);clear a d;go_enter func163,ntmps163;go_upto_region 1 with(refine fg λW S=>?_);refine eu S dC λW S=>?_;refine dh 0 (dE w.heap.size 2) ?_;refine gZ 1 (.bool false) ae (uj S 0 (λ_ h=>h) ae 2 g.o rn ae tT) ?_;refine dh 2 _ ?_;refine pQ 3 ?_;refine pQ 4 ?_;refine pQ 5 ?_;refine pQ 6 ?_;refine dh 7 (.bool false) ?_;refine dh 8 (.bool false) ?_;refine pQ 9 ?_;refine pQ 10 ?_;refine pQ 11 ?_;refine pQ 12 ?_;refine pQ 13 ?_;refine pQ 14 ?_;refine pQ 15 ?_;refine pQ 16 ?_;refine pQ 17 ?_;refine dh 18 (.bool false) ?_;refine dh 19 _ ?_;refine qx ?_;go_wp2;go_ret;exact az
 |true=>
  have g:Hid (Value.bool x.dz=.bool true):=cz (by rw[d]);rw[d,Lt] at a;by_cases ho:x.cY=id
  . rw[gM ho,Lt] at a;have D:Hid ((x.name.toList==y.name.toList)=T):=cz (by rw[XT];exact a);have t:Hid (((x.cY:Nat):Int)==((id:Nat):Int)):=cz (by rw[ho];simp);clear a d;subst ho;go_enter func163,ntmps163;go_upto_region 1 with(refine fg λW S=>?_);refine eu S dC λW S=>?_;refine dh 0 (dE w.heap.size 2) ?_;refine gZ 1 (.bool true) ae (uj S 0 (λ_ h=>h) ae 2 g.o rn ae tT) ?_;refine dh 2 _ ?_;refine dh 3 (dE w.heap.size 3) ?_;refine dh 4 (.int .u64 x.cY) ?_;refine gZ 5 (.int .u64 x.cY) ae (gO (λw h=>by obtain⟨_,S⟩:=h;exact cM.cell (s.o.cP S.b) (i:=0) cN) ae fZ) ?_;refine dh 6 (.bool true) ?_;refine dh 7 (.bool true) ?_;refine dh 8 (.bool true) ?_;refine dh 9 (dE w.heap.size 1) ?_;refine dh 10 (.string x.name) ?_;refine dh 11 (dE m 1) ?_;refine gZ 12 (.slice (s_ k l) b.l.length b.cap) ae (gO (λw h=>by obtain⟨_,S⟩:=h;rw[cM.cell (p.o.cP S.b) (i:=1) cN];exact gD some o.o) ae sS) ?_;refine gZ 13 (.int .i64 j) ae (gO (λw h=>by obtain⟨_,S⟩:=h;exact cM.cell (n.o.cP S.b) (i:=0) cN) ae DG) ?_;refine dh 14 (dE k (l+j*11)) ?_;refine dh 15 (dE k (l+j*11+1)) ?_;refine gZ 16 (.string y.name) ae (gO (λw h=>by obtain⟨_,S⟩:=h;exact(E.o.cP S.b).c1) ae Gt) ?_;refine gZ 17 (.bool T) ae (Or.inl ⟨dC,λw H=>by have F:=D.o;go_simp⟩) ?_;refine dh 18 (.bool T) ?_;refine dh 19 _ ?_;refine qx ?_;go_wp2;go_ret;exact az
  . (obtain rfl:false=T:=by rw[<-a,jG ho];rfl);have t:Hid ((((x.cY:Nat):Int)==((id:Nat):Int))=false):=cz (by rw[lR];omega);clear a d;go_enter func163,ntmps163;go_upto_region 1 with(refine fg λW S=>?_);refine eu S dC λW S=>?_;refine dh 0 (dE w.heap.size 2) ?_;refine gZ 1 (.bool true) ae (uj S 0 (λ_ h=>h) ae 2 g.o rn ae tT) ?_;refine dh 2 _ ?_;refine dh 3 (dE w.heap.size 3) ?_;refine dh 4 (.int .u64 x.cY) ?_;refine gZ 5 (.int .u64 id) ae (gO (λw h=>by obtain⟨_,S⟩:=h;exact cM.cell (s.o.cP S.b) (i:=0) cN) ae fZ) ?_;refine gZ 6 (.bool false) ae (Or.inl ⟨dC,λw H=>by have F:=t.o;go_simp⟩) ?_;refine dh 7 (.bool false) ?_;refine dh 8 (.bool false) ?_;refine pQ 9 ?_;refine pQ 10 ?_;refine pQ 11 ?_;refine pQ 12 ?_;refine pQ 13 ?_;refine pQ 14 ?_;refine pQ 15 ?_;refine pQ 16 ?_;refine pQ 17 ?_;refine dh 18 (.bool false) ?_;refine dh 19 _ ?_;refine qx ?_;go_wp2;go_ret;exact az
theorem Ke(l:List dw)(id:Nat):∀(f:Nat)(a:cV)(dB:Nat),(∀m∈a,(fj l m).isSome=cx)->∀m∈(z6 l id f a dB).1,(fj l m).isSome=cx
 |0,a,dB,h=>h
 |f+1,a,dB,h=>by
  unfold z6;split
  . exact h
  . split
    . exact h
    . next i hi=>
      split
      . refine Ke l id f _ _ λm b=>?_;rcases gH.1 b with h2|h2
        . exact h m h2
        . rw[fM.1 h2,hi];rfl
      . exact h
theorem XU(l:List dw)(id:Nat):∀m∈(uX l id).1,(fj l m).isSome=cx:=by grind[uX,Ke]
def zq(l:List dw)(id:Nat):cV->List dw->Option (List dw)
 | [],s=>cu s
 |m::ms,s=>match fj l m with
  |none=>cw
  |some j=>if l.any (Kd id (dH l j).name)=cx then cw else zq l id ms (s.set j {dH s j with cY:=id})
def yk(l:List dw)(o:dw):cV:=(uX l o.cY).1.drop ((abp (uX l o.cY).1 o.id).getD 0)
def fQ(b:ee)(cT:fF):ee×Int:=
 match nK b.cU cT with
 |(cw,c)=>(b,c)
 |(cu i,_)=>match fj b.cU (uX b.cU (dH b.cU i).id).2 with
  |none=>(b,174)
  |some o=>match zq b.cU (dH b.cU i).id (yk b.cU (dH b.cU o)) b.cU with
   |none=>(b,171)
   |some s=>(⟨b.next,s⟩,0)
def Kg(l:List dw)(id m:Nat)(a:cV)(s:List dw):zq l id (m::a) s=match fj l m with
 |none=>cw
 |some j=>if l.any (Kd id (dH l j).name)=cx then cw else zq l id a (s.set j {dH s j with cY:=id}):=rfl
theorem Qi(l:List dw)(id:Nat):∀(f:Nat)(a:cV)(dB:Nat),(z6 l id f a dB).1.length<=a.length+f
 |0,a,dB=>eN _
 |f+1,a,dB=>by
  unfold z6;split
  . grind
  . split
    . grind
    . split
      . have:=Qi l id f (a++[dB]) (dH l (by assumption)).dB;rw[ji] at this;simp only[length_singleton] at this;omega
      grind
theorem aei(l:List dw)(id:Nat):(uX l id).1.n<=32:=by unfold uX;split;grind;split;grind;grind[Qi]
theorem St.UI(S:St w0 d l L (o::O) X w)(R:c8 w o.e o.z v n xs)(hv:0<n->v.ownBlock=o.v.ownBlock)(c:lS o.e=cy)(e:gV o.e=cy):
 St w0 d l L O (λB w=>X B w/\yX o.e o.z v n xs B w) w:=by
 refine S.OJ.DN (fE _ _ _ _ _ c e) ⟨R,λk b j g=>?_⟩;have h:o.v.ownBlock=cu b:=by grind
 have a:=S.nd;have f:eS L (o::O)=L.map R4.b++b::O.filterMap O4.ob:=by grind[eS,O4.ob]
 rw[f] at a;have i:(L.map R4.b++b::O.filterMap O4.ob).Perm (b:: (L.map R4.b++O.filterMap O4.ob)):=perm_middle;exact(yx.1 (i.nodup_iff.1 a)).1 g
def ait:Gr prog 78 1:=⟨dC,λW=>by rfl⟩
theorem KV(b:dW)(A:gE)(hA:A=cL 2 (dO b))(J:zn b.t)(cT:fF)(e4:cT.s<=140737488355328)(w:cS)(R:iT w b):
 CP_ 99 #[bV A,bY cT] w λe w'=>∃B,e=cj (cg #[bV B,bU cq (fQ b.t cT).2])/\lY w' w.h.s B (fQ b.t cT).1/\dR w w':=by
 have HA:=cz hA;have Z:=cz R;have C1:=cz λW(a:dR w W)=>Jp b A hA J cT e4 W (Z.o.cP a);have C2:=cz λid W(a:dR w W)=>Mw b.l b.sv id J.len W (Z.o.cP a);have C3:=cz λid W(a:dR w W)=>Kc b.l b.sv id J.len J.2 W (Z.o.cP a);have C4:=cz λid W(a:dR w W)=>Qf b.l b.sv id J.len W (Z.o.cP a);have C6:=cz λid W(a:dR w W)=>wH b.l b.sv id J.len W (Z.o.cP a);have C9:=cz λW(a:dR w W)=>qJ b A hA J W (Z.o.cP a);have hd:rG b.l:=J.2;have F:=J.len;have S:=qR w;clear hA J;obtain⟨T,HT⟩:=sO (fQ b.t cT);rw[HT.o];go_enter func99,ntmps99;rcases DR b.t.cU cT with⟨cd,hc,hv⟩|⟨i,hn,hv⟩
 . (obtain rfl:(b.t,cd)=T:=by rw[<-HT.o];unfold fQ;rw[hv]);rw[hv] at C1;clear hv;go_wp2_with first|refine je S (C1.o _ S.b) λW S=>?_|refine Be S (C9.o _ S.b) λW B c HB HC HF S=>?_|(refine mA ?_;exact⟨_,ae,⟨c,ae,HC.o,S.jJ HF.o⟩,S.b⟩)|refine fL ?_|refine fg λW S=>?_
 . (obtain⟨x,hx⟩:=we hn;have f2:=(nB.1 hx).1;have e7:(i:Int)<(b.l.n:Int):=cN;have hg:dH b.t.cU i=x.todw:=lG hx;obtain⟨u,I,N⟩:=Bg R cN;have R9:=R.cU N;have b6:=cz R9;have HX:=cz (R9.at hx);have l:Hid (dO b 1=bX (cu ⟨u,I,cw⟩) b.l.n b.cap):=cz (by rw[<-N];rfl);have X:b.sv=bX (s_ u I) b.l.n b.cap:=by unfold dW.sv;rw[N]);(rw[X] at C2 C3 C4 C6;obtain⟨og,a9⟩:=dI ((uX (eM b.l) x.id).2);have C2:=cz (C2.o x.id);have C3:=cz (C3.o og);rw[a9] at C2;obtain⟨pn,b1⟩:=dI (fj (eM b.l) og);rw[b1] at C3;obtain⟨pb,a5⟩:=sO pn.isSome;rw[a5.o] at C3;have a2:T=pn.elim (b.t,174) λo=>(zq (eM b.l) x.id (yk (eM b.l) (dH (eM b.l) o)) (eM b.l)).elim (b.t,171) λs=>(⟨b.next,s⟩,0):=by rw[<-HT.o,<-b1,<-a9];unfold fQ;rw[hv];simp only[hg];rw[show b.t.cU=eM b.l from ae];cases fj (eM b.l) (uX (eM b.l) x.id).2 with|none=>rfl|some o=>simp only[BL];cases zq (eM b.l) x.id (yk (eM b.l) (dH (eM b.l) o)) (eM b.l)<;>rfl);have a1:=cz a2;rw[hv] at C1;simp only[lF] at C1;clear hv hn hg hx N b1 a2 a9 X;go_upto_region 5 with(first|(first|refine jo 32 82 31 ((HX.o.cP S.b).c0) ?_)|refine yZ S rfl HA.o rfl λW1 S=>?_|refine je S (C1.o _ S.b) λW4 S=>?_|refine EC S 1 ae 1 (v:=bX (s_ u I) b.l.n b.cap) l.o ?_|refine fL ?_|refine fg λW S=>?_);refine eR S dC [⟨w.h.s,99,2,dO b⟩,⟨W4.h.s,82,1,λ_=>bU ct x.id⟩] CI λW S=>?_;refine dh 0 (dE w.h.s 1) ?_;refine gZ 1 (bX (s_ u I) b.l.n b.cap) ae (gO (λw h=>by rw[cM.cell (h.row 0 ae) (i:=1) rn];exact gD cu l.o) ae sS) ?_;refine dh 2 (dE w.h.s 1) ?_;refine gZ 3 (bX (s_ u I) b.l.n b.cap) ae (gO (λw h=>by rw[cM.cell (h.row 0 ae) (i:=1) rn];exact gD cu l.o) ae sS) ?_;refine dh 4 (bU ct x.id) ?_;repeat' first|refine Te ?_|refine nA 7 _ ?_|refine nA 8 (bV B) ?_|refine nA 9 (bZ pb) ?_|refine nA 12 _ ?_|refine BE 5 10 (λK C=>?_) λK C=>?_|refine qg 5 λK C=>?_|refine qg 6 λK C=>?_|refine qg 11 λK C=>?_|refine BE 6 10 (λK C=>?_) λK C=>?_|refine qg 10 λK C=>?_|(refine gl S xO pS ae λE9 W S=>?_;refine gq C ?_)|(go_wp2_with fail;refine je S (C2.o _ S.b) λW S=>?_;refine gq C ?_)|(go_wp2_with fail;refine ah (C3.o _ S.b) λB W6⟨⟨pv,hB,d4,e5⟩,a⟩=>?_;have HB:=cz hB;have e2:=cz d4;replace S:=S.cP a;clear a hB d4 e5;refine gq C ?_)|(refine kq S 0 ae ae ae HB.o uV (mI _) λW S=>?_;refine gq C ?_)
   all_goals(
    refine cz ?_;cases pb with
    |false=>
     obtain rfl:T=(b.t,174):=by
      have h9:=a1.o;cases pn with
      |none=>exact h9
      |some j=>exact absurd a5.o eQ
     go_wp2_with first|refine Be S (C9.o _ S.b) λW B c HB HC HF S=>?_|(refine mA ?_;exact⟨_,ae,⟨c,ae,HC.o,S.jJ HF.o⟩,S.b⟩)|refine fL ?_|refine fg λW S=>?_
    |true=>
     obtain⟨e6,rfl⟩:∃j,pn=cu j:=by
      cases pn with
      |none=>exact absurd a5.o eQ
      |some j=>exact⟨j,ae⟩
     have d2:dH (eM b.l) e6=pv.todw:=e2.o.symm;obtain⟨M,D⟩:=dI ((uX (eM b.l) pv.cY).1);obtain⟨ri,V⟩:=dI (abp M pv.id);obtain⟨kk,Q⟩:=dI (ri.getD 0);obtain⟨f,L⟩:=sO (M.drop kk);obtain⟨KT,b4⟩:=sO (zq (eM b.l) x.id f (eM b.l));have H:T=KT.elim (b.t,171) λs=>(⟨b.next,s⟩,0):=by
      rw[a1.o,<-b4.o,<-L.o,<-Q,<-V,<-D];unfold yk;rw[BL,d2]
     have d6:∀m∈f,(fj (eM b.l) m).isSome=cx:=λm hm=>by rw[<-L.o] at hm;have:=mS hm;rw[<-D] at this;exact XU _ _ m this
     have f1:M.n<=32:=by rw[<-D];exact aei _ _
     have c5:kk<=M.n:=by
      rw[<-Q];cases ri with
      |none=>exact gw _
      |some q=>exact Nat.le_of_lt (IZ.1 V).1
     have c6:max (lF ri) 0=((kk:Nat):Int):=by
      rw[<-Q];cases ri with
      |none=>rfl
      |some q=>exact Int.max_eq_left (Int.natCast_nonneg q)
     have G:M.n-kk=f.n:=by rw[<-L.o,tY]
     have e8:f.n<=32:=cN;have t:=cz H;have e3:=cz d6;have C4:=cz (C4.o pv.cY);rw[D] at C4;have C5:=cz λv hl W R=>UH M v pv.id hl W R;rw[V] at C5;have b9:M.n<=1000000:=cN;clear d2 D V H d6 Q
     go_upto_region 12 with(first|refine EC S 3 ae 1 (v:=bX (s_ u I) b.l.n b.cap) l.o ?_|(refine ah (C4.o _ S.b) λr W⟨ho,a⟩=>?_;obtain⟨ra,rc,rfl⟩:=dx ho;replace S:=S.iv a ho ae ae;clear a)|refine je S (C5.o _ b9 _ S.q0) λW S=>?_|(refine zi ait ae ae c5 ?_;have RD:=c8.CU S.q0 c5;obtain⟨md,U⟩:=dI (lz ra rc kk 1);(try simp only at RD);rw[U,G,sM,<-map_drop,L.o] at RD;rw[U,G];have d1:0<f.n->Value.ownBlock (bX md f.n (rc-kk))=Value.ownBlock (bX ra M.n rc):=(λhn=>by obtain⟨g1,c1,e1⟩:=DI S.o0 (by show 0<M.n;omega);simp only[ly] at e1;obtain⟨rfl,-,rfl⟩:=e1;rw[<-U];unfold lz;split<;>simp[Value.ownBlock,Addr.add]<;>(split<;>simp_all));replace S:=S.UI RD d1 ae ae;clear RD d1 U)|(refine ah (C9.o _ S.b) λB3 W5⟨⟨⟨cn,p,ca,cc⟩,hB,hc,ho⟩,a⟩=>?_;obtain⟨c2,O⟩:=ee.mk.inj hc;simp only at c2 O;subst c2;have c7:p.n=b.l.n:=(by have h9:=gD length O;rwa [iu,iu] at h9);obtain⟨g,b8⟩:=u9 ho (by show 0<p.n;omega);simp only at b8;subst b8;have d9:=cz c7;have d8:=cz hB;have HM:=cz O;have HF:=cz (S.fresh ho);replace S:=S.kr a ho;clear c7;change St _ _ _ _ (⟨109,11,bX (s_ g 0) p.n cc,p.n,jh p⟩::_) _ _ at S;clear a hB hc O)|refine fL ?_|refine fg λW S=>?_)
     have eg:∀args w,(callFunc 163 args).run prog w=.ok (.enter 163 args) w:=enters_of func163 dC ae;have EG:=cz eg;have d5:=fE 82 1 (Value.slice md f.n (rc-kk)) f.n (KS f) ae ae;have b7:=cz d5;have S:=cz S;clear eg d5 c6 G
     go_loopw [63] (λkv wr=>∃(k:Nat)(m:List dL),k<=f.n/\kv=bU cq k/\Hid (zq (eM b.l) x.id (f.drop k) (eM m)=KT/\m.n=p.n/\(∀v∈m,rH w.h.s v)/\
      St w cw [] [⟨W5.h.s,99,2,dO ⟨b.next,p,s_ g 0,cc⟩⟩,⟨E9,109,11,iw pv⟩,⟨W4.h.s,82,1,λ_=>bU ct x.id⟩,⟨W1.h.s,99,2,dO xm⟩,⟨w.h.s,99,2,dO b⟩] [⟨109,11,bX (s_ g 0) p.n cc,p.n,jh m⟩] (λB w=>yX 82 1 (Value.slice md f.n (rc-kk)) f.n (KS f) B w/\oL m B w) wr)) (λkv _=>f.n-(intOf kv).m)
     case atStart=>exact⟨0,p,cN,ae,cz ⟨by rw[HM.o];exact b4.o,ae,HF.o,S.o.EY (λ_ _ h=>⟨h.1.2,h.2⟩) (b7.o.and (jn p)).mh⟩⟩
     case round=>
      clear S;obtain⟨k,m,hk,rfl,hS⟩:=hrel;obtain⟨d,a8,c3,S⟩:=hS.o;clear hS;have a4:=cz a8;have a3:=cz c3;clear c3;by_cases a7:k<f.n
      . obtain⟨n,hn⟩:=dI (f[k]);obtain⟨lb,lo,rfl⟩:∃lb lo,md=s_ lb lo:=by
         obtain⟨_,_,e1,_,h⟩:=dP S.x.1.1
         grind
        have c9:(KS f)[k]?=cu (.int ct n):=by unfold KS;rw[rO,jE a7,hn];rfl
        obtain⟨j,hj⟩:∃j,fj (eM b.l) n=cu j:=Option.isSome_iff_exists.1 (e3.o n (hn▸mP a7));obtain⟨f3,y,hy,-⟩:=kL hj;have c4:dH (eM b.l) j=y.todw:=lG hy;rw[De a7,hn,Kg,hj] at d;simp only[c4] at d;have C7:=cz (C6.o n);rw[hj] at C7;simp only[lF] at C7;obtain⟨an,a6⟩:=dI ((eM b.l).any (Kd x.id y.name));rw[show y.todw.name=y.name from ae,a6] at d;have C8:=cz λ(cb:gE)W hR hc=>Js (Kd x.id y.name) b.l (bX (s_ u I) b.l.n b.cap) F 163 cb W EG.o hR hc;rw[a6] at C8;have b2:=cz d;have b5:=cz c9;have b3:=cz hy;have f4:(j:Int)<(p.n:Int):=by have:=d9.o;omega
        have E:j<m.n:=cN;clear d hn c9 hj c4 a6 hy a8;cases an with
        |true=>
         obtain rfl:T=(b.t,171):=by have h9:=b2.o;rw[df ae] at h9;rw[t.o,<-h9];rfl
         go_wp2_with first|(first|refine zC (c8.cellAt S.x.1.1 cN b5.o) ?_|refine EC S 4 ae 1 (v:=bX (s_ u I) b.l.n b.cap) l.o ?_|refine EC S 5 ae 1 (v:=bX (s_ u I) b.l.n b.cap) l.o ?_)|refine je S (C7.o _ S.b) λW S=>?_|(have hE:=λ(k:Nat)(z:dL)(A:gE)W'(_:b.l[k]?=cu z)(hA:A=cL 11 (iw z))a=>Hp z y A hA x.id _ _ _ j b W' (cM.cP (S.oW (k:=3) ae) a) (cM.cP (S.oW (k:=5) ae) a) (cM.cP S.k0 a) ((Z.o.cP S.b).cP a) b3.o F;refine(C8.o #[dE _ 0,dE _ 0,dE _ 0] _ (b6.o.cP S.b) hE).mono ?_;clear hE;rintro e W ⟨rfl,a⟩;replace S:=S.cP a;clear a)|refine Be S (C9.o _ S.b) λW B c HB HC HF S=>?_|(refine mA ?_;exact⟨_,ae,⟨c,ae,HC.o,S.jJ HF.o⟩,S.b⟩)|refine fL ?_|refine fg λW S=>?_
        |false=>
         go_wp2_with first|(first|refine jl 78 97 77 S 1 1 (bX (s_ g 0) p.n cc) ?_|refine jl 79 3 15 S 0 0 (bU cq j) ?_)|(first|refine zC (c8.cellAt S.x.1.1 cN b5.o) ?_|refine EC S 4 ae 1 (v:=bX (s_ u I) b.l.n b.cap) l.o ?_|refine EC S 5 ae 1 (v:=bX (s_ u I) b.l.n b.cap) l.o ?_)|refine je S (C7.o _ S.b) λW S=>?_|(have hE:=λ(k:Nat)(z:dL)(A:gE)W'(_:b.l[k]?=cu z)(hA:A=cL 11 (iw z))a=>Hp z y A hA x.id _ _ _ j b W' (cM.cP (S.oW (k:=3) ae) a) (cM.cP (S.oW (k:=5) ae) a) (cM.cP S.k0 a) ((Z.o.cP S.b).cP a) b3.o F;refine(C8.o #[dE _ 0,dE _ 0,dE _ 0] _ (b6.o.cP S.b) hE).mono ?_;clear hE;rintro e W ⟨rfl,a⟩;replace S:=S.cP a;clear a)|refine aee S 0 rfl rfl (j*11+3) (v:=bU ct x.id) (by show j*11+3<p.n*11;omega) rfl rfl rfl fZ λW S=>?_|refine fL ?_|refine fg λW S=>?_
         go_roundw
         case rel=>
          obtain⟨z,hz⟩:=dI (m[j]);obtain⟨y',Y⟩:∃y':dL,y'=⟨{z.todw with cY:=x.id},z.dZ,z.cap⟩:=⟨_,ae⟩;have d3:(jh m).set (j*11+3) (bU ct x.id)=jh (m.set j y'):=wh E hz 3 cN _ y' (λj hj=>by rw[Y];rcases j with(_|_|_|_|_|_|_|_|_|_|_|j)<;>first|rfl);have X:eM (m.set j y')=(eM m).set j {dH (eM m) j with cY:=x.id}:=by
           rw[lG (x:=z) (by rw[jE E,hz]),show eM (m.set j y')=(eM m).set j y'.todw by unfold eM;rw[map_set],Y]
          have d7:z∈m:=hz▸mP E;have d:=b2.o;rw[cZ eQ] at d;refine⟨k+1,m.set j y',cN,by go_num,cz ⟨by rw[X];exact d,by rw[xM];exact a4.o,λv hv=>?_,?_⟩⟩
          . rcases vy hv with h|h
            . exact a3.o v h
            . rw[h,Y];exact a3.o z d7
          . have S:=S.pop;simp only at S;rw[d3] at S;refine S.EY (λB w h=>⟨h.1,λv hv=>?_⟩) (b7.o.and (jn _)).mh;rcases vy hv with h2|h2
            . exact h.2 v h2
            . rw[h2,Y];exact h.2 z d7
         case measure=>exact pR
      . obtain rfl:k=f.n:=cN;rw[drop_length] at d;obtain rfl:T=(⟨b.next,eM m⟩,0):=by rw[t.o,<-d];rfl
        have e9:Hid (B3=cL 2 (dO ⟨b.next,m,s_ g 0,cc⟩)):=cz (by rw[d8.o];unfold dO dW.sv;simp only[a4.o]);clear d a8
        go_wp2_with first|(refine mA ?_;exact⟨_,ae,⟨⟨b.next,m,s_ g 0,cc⟩,ae,ae,⟨by have h9:=S.o0;unfold dW.sv;rw[a4.o];exact h9,λv hv=>⟨(S.x.2 v hv).1,a3.o v hv⟩⟩⟩,S.b⟩)|refine fL ?_|refine fg λW S=>?_
   )
def fx(s:dw):Bool:=
 decide (1<=s.id/\s.id<=281474976710655)&&decide (1<=s.cY/\s.cY<=281474976710655)&&decide (s.dB<=281474976710655)&&decide (1<=s.blocks/\s.blocks<=64)&&eo s.name&&ij s.cO&& (decide (s.di.n<=4000)&&ou s.di)&&
  (if s.dz=cx then decide (1<=s.cR/\s.cR<=281474976710655) else decide (s.cR=0/\s.cY=s.id))
theorem mJ(h:(1<=s.id/\s.id<=281474976710655)->(1<=s.cY/\s.cY<=281474976710655)->s.dB<=281474976710655->(1<=s.blocks/\s.blocks<=64)->eo s.name=cx->ij s.cO=cx->s.di.n<=4000->ou s.di=cx->(if s.dz=cx then decide (1<=s.cR/\s.cR<=281474976710655) else decide (s.cR=0/\s.cY=s.id))=cy):fx s=cy:=by simp_all[fx]
theorem wj(x:dL):∀i,i<3->iw x (7+i)=dF x.cO i:=λi a=>by grind[iw]
theorem Hq(x:dL)(A:gE)(J:A=cL 11 (iw x))(Z:x.di.n<=1000000)(w:cS)(R:zj w x):
 tf 198 #[bV A] w (bZ (fx x.todw)):=by
 have N:=cz J;have K:=cz R;obtain⟨G,r⟩:=fP (cL 3 (dF x.cO));have k:=cz λw=>tB x.name w;have l:=cz (show∀w,tf 241 #[bV G] w (bZ (ij x.cO)) from λw=>by rw[<-dk r];exact yK x.cO w);have n:=cz λW(M:dR w W)=>Ar x.di x.dv W cN (K.o.cP M);have F:=cz r;have h:=wj x;have S:=qR w;obtain⟨T,s⟩:=dI (fx x.todw);have d:=cz s;rw[s];clear J r s;go_enter func198,ntmps198;by_cases O:x.id<1
 case pos=>
  obtain rfl:cy=T:=by rw[<-d.o];exact(mJ λb _ _ _ _ _ _ _=>absurd b.1 cN).symm
  have t:(x.id:Int)<1:=cN;go_wp2_with (first|refine fL ?_|refine fg λW S=>?_);go_ret;exact az
 have t:¬((x.id:Int)<1):=cN;by_cases Q:281474976710655<x.id
 case pos=>
  obtain rfl:cy=T:=by rw[<-d.o];exact(mJ λb _ _ _ _ _ _ _=>absurd b.2 cN).symm
  have u:(281474976710655:Int)<(x.id:Int):=cN;go_wp2_with (first|(first|refine jm 9 82 8 S 0 0 (bU ct x.id) ?_)|refine fL ?_|refine fg λW S=>?_);go_ret;exact az
 have u:¬((281474976710655:Int)<(x.id:Int)):=cN;go_upto_region 2 with(first|(first|refine jm 9 82 8 S 0 0 (bU ct x.id) ?_)|refine fL ?_|refine fg λW S=>?_);by_cases U:x.cY<1
 case pos=>
  obtain rfl:cy=T:=by rw[<-d.o];exact(mJ λ_ b _ _ _ _ _ _=>absurd b.1 cN).symm
  have y:(x.cY:Int)<1:=cN;go_wp2_with (refine fL ?_);go_ret;exact az
 have y:¬((x.cY:Int)<1):=cN;by_cases V:281474976710655<x.cY
 case pos=>
  obtain rfl:cy=T:=by rw[<-d.o];exact(mJ λ_ b _ _ _ _ _ _=>absurd b.2 cN).symm
  have z:(281474976710655:Int)<(x.cY:Int):=cN;go_wp2_with (first|(first|refine jm 17 82 16 S 0 3 (bU ct x.cY) ?_)|refine fL ?_);go_ret;exact az
 have z:¬((281474976710655:Int)<(x.cY:Int)):=cN;go_upto_region 3 with(first|(first|refine jm 17 82 16 S 0 3 (bU ct x.cY) ?_)|refine fL ?_);by_cases X:281474976710655<x.dB
 case pos=>
  obtain rfl:cy=T:=by rw[<-d.o];exact(mJ λ_ _ b _ _ _ _ _=>absurd b cN).symm
  have B:(281474976710655:Int)<(x.dB:Int):=cN;go_wp2_with (refine fL ?_);go_ret;exact az
 have B:¬((281474976710655:Int)<(x.dB:Int)):=cN;go_upto_region 4 with(refine fL ?_);by_cases h6:x.blocks<1
 case pos=>
  obtain rfl:cy=T:=by rw[<-d.o];exact(mJ λ_ _ _ b _ _ _ _=>absurd b.1 cN).symm
  have C:(x.blocks:Int)<1:=cN;go_wp2_with (refine fL ?_);go_ret;exact az
 have C:¬((x.blocks:Int)<1):=cN;by_cases Y:64<x.blocks
 case pos=>
  obtain rfl:cy=T:=by rw[<-d.o];exact(mJ λ_ _ _ b _ _ _ _=>absurd b.2 cN).symm
  have D:(64:Int)<(x.blocks:Int):=cN;go_wp2_with (first|(first|refine jm 28 3 27 S 0 6 (bU cq x.blocks) ?_)|refine fL ?_);go_ret;exact az
 have D:¬((64:Int)<(x.blocks:Int)):=cN;go_upto_region 5 with(first|(first|refine jm 28 3 27 S 0 6 (bU cq x.blocks) ?_)|refine fL ?_)
 cases H:eo x.name with
 |false=>
  obtain rfl:cy=T:=by rw[<-d.o];exact(mJ λ_ _ _ _ b _ _ _=>absurd b jv).symm
  rw[H] at k;go_wp2_with (first|refine je S (k.o _) λW S=>?_|refine fL ?_);go_ret;exact az
 |true=>
 rw[H] at k;go_upto_region 6 with(first|refine je S (k.o _) λW S=>?_|refine fL ?_)
 cases I:ij x.cO with
 |false=>
  obtain rfl:cy=T:=by rw[<-d.o];exact(mJ λ_ _ _ _ _ b _ _=>absurd b jv).symm
  rw[I] at l;go_wp2_with (first|refine oM_ S 0 ae (o:=7) (m:=3) (dF x.cO) h F.o ?_|refine je S (l.o _) λW S=>?_);go_ret;exact az
 |true=>
 rw[I] at l;go_upto_region 7 with(first|refine oM_ S 0 ae (o:=7) (m:=3) (dF x.cO) h F.o ?_|refine je S (l.o _) λW S=>?_);by_cases L:4000<x.di.n
 case pos=>
  obtain rfl:cy=T:=by rw[<-d.o];exact(mJ λ_ _ _ _ _ _ b _=>absurd b cN).symm
  have i:(4000:Int)<(x.di.n:Int):=cN;go_wp2_with (refine fL ?_);go_ret;exact az
 have i:¬((4000:Int)<(x.di.n:Int)):=cN;cases g:ou x.di with
 |false=>
  obtain rfl:cy=T:=by rw[<-d.o];exact(mJ λ_ _ _ _ _ _ _ b=>absurd b jv).symm
  rw[g] at n;go_wp2_with (first|(first|refine jm 45 107 44 S 0 10 (bX x.dZ x.di.n x.cap) ?_)|refine je S (n.o _ S.b) λW S=>?_|refine fL ?_);go_ret;exact az
 |true=>
 rw[g] at n;go_upto_region 9 with(first|(first|refine jm 45 107 44 S 0 10 (bX x.dZ x.di.n x.cap) ?_)|refine je S (n.o _ S.b) λW S=>?_|refine fL ?_);have c:T=(if x.dz=cx then decide (1<=x.cR/\x.cR<=281474976710655) else decide (x.cR=0/\x.cY=x.id)):=by rw[<-d.o];unfold fx;grind
 cases f:x.dz with
 |true=>
  have e:Hid (Value.bool x.dz=bZ cx):=cz (by rw[f]);rw[f,df ae] at c;have a:=cz c;clear c f;by_cases q:x.cR<1
  . (obtain rfl:T=cy:=by rw[a.o];grind);have j:¬(1:Int)<=(x.cR:Int):=cN;go_wp2_with (first|refine EC S 0 ae 2 (v:=bZ cx) e.o ?_|refine fL ?_);go_ret;exact az
  . have j:(1:Int)<=(x.cR:Int):=cN;by_cases E:x.cR<=281474976710655
    . (obtain rfl:T=cx:=by rw[a.o];grind);have p:(x.cR:Int)<=281474976710655:=cN;go_wp2_with (first|(first|refine jm 57 82 56 S 0 5 (bU ct x.cR) ?_)|refine EC S 0 ae 2 (v:=bZ cx) e.o ?_|refine fL ?_);go_ret;exact az
    . (obtain rfl:T=cy:=by rw[a.o];grind);have p:¬(x.cR:Int)<=281474976710655:=cN;go_wp2_with (first|(first|refine jm 57 82 56 S 0 5 (bU ct x.cR) ?_)|refine EC S 0 ae 2 (v:=bZ cx) e.o ?_|refine fL ?_);go_ret;exact az
 |false=>
  have e:Hid (Value.bool x.dz=bZ cy):=cz (by rw[f]);rw[f,cZ eQ] at c;have a:=cz c;clear c f;by_cases q:x.cR=0
  . have j:Hid (Value.int ct x.cR=bU ct 0):=cz (by rw[q];rfl);by_cases E:x.cY=x.id
    . (obtain rfl:T=cx:=by rw[a.o];grind);have p:Hid (Value.int ct x.cY=bU ct x.id):=cz (by rw[E]);clear q E;go_wp2_with (first|refine jm 67 82 66 S 0 0 (bU ct x.id) ?_|(first|refine EC S 0 ae 2 (v:=bZ cy) e.o ?_|refine EC S 0 ae 5 (v:=bU ct 0) j.o ?_|refine EC S 0 ae 3 (v:=bU ct x.id) p.o ?_));go_ret;exact az
    . (obtain rfl:T=cy:=by rw[a.o];grind);(have p:(((x.cY:Nat):Int)==((x.id:Nat):Int))=cy:=by rw[lR];omega);clear q;go_wp2_with (first|(first|refine jm 65 82 64 S 0 3 (bU ct x.cY) ?_|refine jm 67 82 66 S 0 0 (bU ct x.id) ?_)|(first|refine EC S 0 ae 2 (v:=bZ cy) e.o ?_|refine EC S 0 ae 5 (v:=bU ct 0) j.o ?_));go_ret;exact az
  . (obtain rfl:T=cy:=by rw[a.o];grind);(have j:(((x.cR:Nat):Int)==0)=cy:=by rw[lR];omega);go_wp2_with (first|refine EC S 0 ae 2 (v:=bZ cy) e.o ?_|refine fL ?_);go_ret;exact az
end
section
variable {x:Nat}
theorem Qj(s:fF):(rW s).n=s.s:=by grind[rW,size_eq]
def UJ(w:cS)(e:dU)(s:fF):dR w (bytesWorld w e s):=
 ⟨ae,ae,ae,by rw[bytesWorld_size];omega,λk a=>bytesWorld_at_old w e s k a⟩
theorem ak5(S:St w0 d l L O X w){s:fF}{e:dU}(t:a.eval (.tmp x)=.string s)(r:P.underlying src=some .string)(n:P.underlying e=some (.slice 5))(o:P.underlying 5=some (.int .u8))(q:s.size<=maxLen)(h:∀g c W,St w0 d l L O (λB w=>X B w/\yX 5 1 (.slice (some ⟨g,0,none⟩) s.size c) s.size (ej (rW s)) B w) W->K (a.put (some dst) (.slice (some ⟨g,0,none⟩) s.size c)) W):
 Oper.wp P ⟨some dst,.convert src e (.tmp x),t2,p,af,none⟩ a w K Q:=by have f:=Lib.run_convert_string_bytes (P:=P) w src e 5 s r n o;unfold Oper.wp execOp;simp only[lh,t,f,nW];refine h _ _ _ ((S.cP (UJ w 5 s)).DN (fE 5 1 _ _ _ ae ae) ⟨?_,λ_ b m i=>?_⟩);refine⟨by grind[ej,Qj],_,_,ae,grownCap_ge _ _ _ _,grownCap_le_maxLen _ _ _ _ q,λ_=>⟨w.heap.size,0,_,_,ae,bytesWorld_at_new w 5 s,λj u k=>?_⟩⟩;rw[oQ];unfold ej rW at k;rw[wO,rO] at k;unfold bytesCells;grind;cases m;exact ud _ (S.lt _ i)
theorem Zu(S:St w0 d l L O X w)(vs:List c7)(j:P.underlying t=cu (.slice e))(f:(P.info? e).map (λi=>(i.zero,i.s,i.bytes))=cu (cu zv,1,by'))(q:0<n)(y:n<=16777216)(ho:gV e=cy)(u:vs.n=n)(r:∀v∈vs,v.cells=#[v])(g:parts.t.map (λp=>(p.1,a.eval p.2))=(vs.zipIdx 0).map λx=>(x.2,x.1))(h:∀W,St w0 d l (⟨w.h.s,e,n,λi=>vs.getD i undef⟩::L) O X W->K (a.put (cu dst) (bX (cu ⟨w.h.s,0,cw⟩) n n)) W):
 Oper.wp P ⟨cu dst,.buildSlice t n parts,t2,p,af,cw⟩ a w K Q:=by
 obtain⟨o,b,k,c,m⟩:=oG f;have s:cL n (λi=>vs.getD i undef)=vs.toArray:=by apply yp;grind[dy]
 refine wp_buildSlice t e n parts ae (cL n (λi=>vs.getD i undef)) o zv j b k jv jv (by rw[c];refine(gD (Instr.fill _ _) ((Array.toList_map).trans g)).trans ?_;grind[Great.fill_flat]) (h _ (S.alloc e ae ho))
def blV(S:St w0 d l L O X w)(vs:List c7)(o:P.underlying t=cu (.slice e))(g:(P.info? e).map (λi=>(i.zero,i.s,i.bytes))=cu (cu zv,1,by'))(b:0<n)(k:n<=16777216)(ho:gV e=cy)(j:vs.n=n)(c:∀v∈vs,v.cells=#[v])(m:parts.t.map (λp=>(p.1,a.eval p.2))=(vs.zipIdx 0).map λx=>(x.2,x.1))(h:∀W,St w0 d l (⟨w.h.s,e,n,λi=>vs.getD i undef⟩::L) O X W->wpList P ops Q rest (a.put (cu dst) (bX (cu ⟨w.h.s,0,cw⟩) n n)) W):
 wpList P ops Q (⟨cu dst,.buildSlice t n parts,t2,p,af,cw⟩::rest) a w:=
 mC ae λ_ f=>Zu S vs o g b k ho j c m λW hS=>f _ _ (h W hS)
end
def RV:(prog.info? 22).map (λi=>(i.zero,i.s,i.bytes))=cu (cu (.slice cw 0 0),1,24):=dC
theorem c8.u'{w:cS}{T:dU}{v:c7}{n:Nat}{l:cV}(h:c8 w T 1 v n (ej l))(a:∀x∈l,x<256):eT .u8 w v (dN l):=by
 have b:l.n=n:=by have:=h.1;grind[ej]
 subst b;exact lN.ints (T:=T) ⟨h,a⟩
def UK(s:fF):∀x∈rW s,x<256:=λx a=>by unfold rW at a;obtain⟨q,_,rfl⟩:=gI.1 a;exact q.toNat_lt
def UL(h:cM w b 22 n (λi=>vs.getD i undef))(d:vs.n=n)(e:ts.n=n)(c:∀k(h:k<vs.n)(f:k<ts.n),eT .u8 w vs[k] (dN ts[k])/\xS vs[k]):Ep w (bX (cu ⟨b,0,cw⟩) n n) ts:=by subst e;refine⟨cu ⟨b,0,cw⟩,ts.n,vs,ae,d,eN _,c,λ_=>⟨b,0,ae,cM.lt h,λk a=>?_⟩⟩;rw[oQ,cM.cell h cN,zE,jE a];rfl
def qi:cV:=[8,1,8,8,8,1]
def pT(s:dw):cV:=[s.id,if s.dz=cx then 1 else 0,s.cY,s.dB,s.cR,s.blocks]
def o7(s:dw):Option cV:=if fx s=cx then uf [kT qi (pT s)++iM s.cO,rW s.name,qh s.di] else cw
def tU(s:dw):Prop:=dD s.cO/\∀q∈s.di,dD q
theorem DT(h:fx s=cx):(1<=s.id/\s.id<=281474976710655)/\(1<=s.cY/\s.cY<=281474976710655)/\s.dB<=281474976710655/\(1<=s.blocks/\s.blocks<=64)/\eo s.name=cx/\ij s.cO=cx/\s.di.n<=4000/\ou s.di=cx/\s.cR<=281474976710655:=by unfold fx at h;grind
theorem abq(h:fx s=cx):vR qi (pT s)=cu (kT qi (pT s)):=by obtain⟨a,b,c,d,-,-,-,-,e⟩:=DT h;unfold vR;rw[df];refine⟨by decide,ae,?_⟩;grind[qi,pT,fitAll]
theorem Qk(h:∀n∈l,n<18446744073709551616):∀x∈dN l,(Lit.int ct x).wf=cx:=λx a=>by unfold dN at a;obtain⟨n,b,rfl⟩:=gI.1 a;grind[Lit.wf,IntKind.min,IntKind.max,IntKind.signed,IntKind.bits]
def UM(l:List cQ):∀x∈qh l,x<256:=λx a=>by unfold qh at a;obtain⟨p,_,h⟩:=Dh.1 a;exact pX p x h
theorem KW{l:List cQ}(a:l.n<=4000)(b:ou l=cx):q9 l=cu (qh l):=by simp_all[q9]
section
attribute[local irreducible]wpList Code.wp Calls Oper.wp wpAnyH
theorem XV(x:dL)(A:gE)(L:A=cL 11 (iw x))(hx:x.di.length<=1000000)(Y:tU x.todw)(w:cS)(R:zj w x):
 CP_ 243 #[.agg A] w λe w'=>∃r,e=.returned (.tuple #[r,.int .i64 (gi 151 (o7 x.todw))])/\mN w' w.heap.size r ((o7 x.todw).getD [])/\dR w w':=by
 have HA:=cz L;have HR:=cz R;have H:=cz λW(a:dR w W)=>Hq x A L hx W (HR.o.cP a);have S:=qR w;obtain⟨T,J⟩:=sO (o7 x.todw);rw[J.o];cases t:fx x.todw with
 |false=>
  obtain rfl:none=T:=by rw[<-J.o];unfold o7;rw[t];rfl
  rw[t] at H;clear t L;go_enter func243,ntmps243;go_wp2_with (first|refine je S (H.o _ S.b) λW S=>?_|refine fL ?_|refine fg λW S=>?_);go_ret2;exact aJ
 |true=>
  obtain⟨g1,g2,g3,g4,g5,g6,F,g8,g9⟩:=DT t;obtain⟨sn,D⟩:∃sn:Nat,(if x.dz=true then 1 else 0)=sn:=⟨_,ae⟩;have a4:sn<256:=by rw[<-D];split<;>omega
  have j:pT x.todw=[x.id,sn,x.cY,x.dB,x.cR,x.blocks]:=by unfold pT;rw[D]
  have b:=abq t;rw[j] at b;obtain⟨E,c⟩:=dI (kT qi [x.id,sn,x.cY,x.dB,x.cR,x.blocks]);rw[c] at b;have d:E.length=34:=by rw[<-c];exact(sq (ws:=qi) (ns:=[x.id,sn,x.cY,x.dB,x.cR,x.blocks]) ae).trans ae
  have f:∀y∈E,y<256:=by rw[<-c];exact wW _ _
  have M:=cz λv u W hv hu=>GU v u qi [x.id,sn,x.cY,x.dB,x.cR,x.blocks] kB W hv hu;rw[b] at M;simp only[lx] at M;have g:uf [E++iM x.cO,rW x.name,qh x.di]=T:=by rw[<-J.o];unfold o7;rw[t,df ae,j,c]
  have i:=kF g5;have N:=cz λv W hv=>TJ v [E++iM x.cO,rW x.name,qh x.di] eQ (λk h=>by
   rcases k with(_|_|_|k)
   . simp[d,fY]
   . simp[Qj];have:x.name.size<=24:=i;omega
   . simp[vZ];have:x.di.length<=4000:=F;omega
   . exact absurd h eQ) W hv
  rw[g] at N;obtain⟨G,V⟩:=fP (cL 3 (dF x.cO));have HG:=cz V;have Z:=wj x;have C3:=cz (Mq x.cO Y.1 g6 G V);have I:=cz λW(a:dR w W)=>ON x.di Y.2 x.dv W cN (HR.o.cP a);rw[KW F g8] at I;simp only[lx] at I;obtain⟨O,p⟩:=dI (qh x.di);rw[p] at I N;have z:=cz (show∀y∈O,y<256 by rw[<-p];exact UM _);have a1:O.length<=64000:=by rw[<-p,vZ];have:x.di.length<=4000:=F;omega
  clear p;rw[t] at H;have s:=cz d;have B:=cz f;have Q:=cz (show∀y∈dN qi,(Lit.int .i64 y).wf=true by decide);have U:=cz (Qk (l:=[x.id,sn,x.cY,x.dB,x.cR,x.blocks]) (λn hn=>by
   grind))
  have a5:IntKind.u64.wrap (x.blocks:Int)=(x.blocks:Int):=BX _ (by have e5:x.blocks<=64:=g4.2;omega);have C:(x.dz=false/\sn=0)∨(x.dz=true/\sn=1):=by
   grind
  have a2:x.di.length<=4000:=F;clear t L V Y b g j c d f D g1 g2 g3 g4 g5 g6 F g8 g9 J;go_enter func243,ntmps243;rcases C with⟨hs,rfl⟩|⟨hs,rfl⟩
  all_goals(
   have H2:=cz (gD Value.bool hs);clear hs
   go_upto_region 15 with(first|refine je S (H.o _ S.b) λW S=>?_|(first|refine EC S 0 ae 2 H2.o ?_|refine oM_ S 2 ae (o:=7) (m:=3) (dF x.cO) Z HG.o ?_)|refine mH S .i64 (dN qi) qt uT cN cN rfl rfl rfl λW S=>?_|refine mH S .u64 (dN [x.id,_,x.cY,x.dB,x.cR,x.blocks]) vS Ap cN cN rfl rfl rfl λW S=>?_|(go_at_call 73;refine ah (M.o _ _ _ (eT.row S.k1 ae (show(6:Nat)<=_ by omega) Q.o) (eT.row S.k0 ae (show(6:Nat)<=_ by omega) U.o)) λr W⟨ho,a⟩=>?_;obtain⟨na,nc,rfl⟩:=dx ho;replace S:=S.iv a ho ae ae;clear a)|(refine ah (C3.o _) λr W⟨ho,a⟩=>?_;obtain⟨pa,pc,rfl⟩:=dx ho;replace S:=S.iv a ho ae ae;clear a)|(refine ah (I.o _ S.b) λr W⟨ho,a⟩=>?_;obtain⟨da,dc,rfl⟩:=dx ho;replace S:=S.iv a ho ae ae;clear a)|refine fL ?_|refine fg λW S=>?_)
   have a3:x.name.size<=24:=i;refine eR S dC [⟨w.heap.size,109,11,iw x⟩] CI λW S=>?_;refine dh 0 _ ?_;refine dh 1 _ ?_;refine dh 3 (dE w.heap.size 1) ?_;refine dh 4 (.string x.name) ?_;refine dh 6 _ ?_
   repeat' first|refine Te ?_|refine nA 9 _ ?_|refine nA 10 (r) ?_|refine nA 11 (.int .i64 (gi 21 T)) ?_|refine nA 12 _ ?_|refine nA 13 _ ?_|refine BE 2 5 (λK q=>?_) λK q=>?_|refine qg 2 λK q=>?_|refine qg 7 λK q=>?_|refine qg 8 λK q=>?_|refine qg 5 λK q=>?_|(refine ak5 S ae za oT yU xZ λgs cs W S=>?_;refine gq q ?_)|(refine aeb S 2 ae ae ae S.q1 Cg (A' _) (by simp only[s.o];omega) (by unfold maxLen;simp only[s.o];omega) λga gc W S=>?_;refine gq q ?_)|(refine Zu S [.slice ga (E.length+16) gc,.slice (s_ gs 0) x.name.size cs,.slice da O.length dc] underlying75 RV cN cN ae ae amw ae λW S=>?_;refine gq q ?_)|(go_wp2_with fail;refine ah (N.o _ _ (UL S.k0 ae ae (λk h h'=>by rcases k with(_|_|_|k);exact⟨c8.u' (by have h9:=c8.jR S.o2;simp only[<-nL] at h9;exact h9) (λy hy=>by rcases gH.1 hy with h|h;exact B.o y h;exact pX x.cO y h),uN S.o2⟩;exact⟨c8.u' S.x.2.1 (UK _),by obtain⟨_,_,e1,X,_⟩:=dP S.x.2.1;simp only[ly] at e1;obtain⟨-,-,rfl⟩:=e1;exact .inr ⟨_,_,_,ae,X⟩⟩;exact⟨c8.u' S.q0 z.o,uN S.o0⟩;exact absurd h eQ))) λr W⟨ho,a⟩=>?_;replace S:=S.iv a ho ae ae;clear a;refine gq q ?_)
   all_goals(
    refine cz ?_;cases T with
    |none=>
     go_wp2;go_ret2;exact aJ
    |some bs=>
     go_wp2;go_ret2;exact bu
   )
  )
end
def aiu:xi prog 75 22 1 24:=⟨underlying75,_,RV,ae,cN⟩
section
def St.Ld(S:St w0 d l L O X w)(g:dR w w')(ho:w'.ownsRow w.h.s e z v n xs)(c:lS e=cy)(f:gV e=cy):St w0 d l L O (λB w=>X B w/\yX e z v n xs B w) w':=
 (S.cP g).DN (fE e z v n xs c f) ⟨c8.jR ho,λ_ b a h=>by have i:=(ho.lt b a).1;have:=S.lt b h;omega⟩
def Cn(ps:List (c7×cV)):cV->cS->Prop:=λB w=>∀p∈ps,yX 5 1 p.1 p.2.n (ej p.2) B w
def r7(ps:List (c7×cV)):vB (Cn ps):=Jo ps λp _=>fE 5 1 _ _ _ ae ae
theorem UN(f:ps.n=n)(ho:w.ownsRow base 22 1 v n (ps.map Prod.fst))(j:Cn ps B w)(i:∀p∈ps,xS p.1)(t:∀p∈ps,∀y∈p.2,y<256):Ep w v (ps.map Prod.snd):=by subst f;have a:(ps.map Prod.snd).n=ps.n:=mQ _;rcases ho.2 with⟨rfl,c⟩|⟨g,cap,b,rfl,m,d,o,q,h6,r⟩;have:ps=[]:=yr c;subst this;exact⟨cw,0,[],ae,ae,eN _,λk h=>absurd h (wQ _),λh=>absurd ae h⟩;refine⟨cu ⟨g,0,cw⟩,cap,ps.map Prod.fst,by rw[a],by grind,cN,λk h l=>?_,λ_=>⟨g,0,ae,(rN.1 d).1,λk s=>?_⟩⟩;rw[mQ] at h;have e:=mP h;have u:=(j _ e).1;grind[c8.u'];rw[oQ];grind[zp]
end
def kH:List dw->Option (List cV)
 | []=>cu []
 |s::l=>match o7 s with
  |none=>cw
  |some t=>match kH l with
   |none=>cw
   |some ts=>cu (t::ts)
theorem OU(l:List dw)(s:dw):kH (l++[s])=match kH l with
 |none=>cw
 |some ts=>match o7 s with
  |none=>cw
  |some t=>cu (ts++[t]):=by
 induction l<;>grind[kH]
theorem OV{l:List dw}(h:kH (l.take k)=cw):kH l=cw:=by rw[<-Aj k l];generalize l.drop k=m;generalize l.take k=n at h;induction n<;>grind[kH]
def jD(next:Nat)(l:List dw):Option cV:=
 if 281474976710655<next∨32<l.n then cw else match kH l with
  |none=>cw
  |some ts=>uf (kT [8] [next]::ts)
theorem Co(h:uf ts=cu r):ts.n<=65535/\(∀t∈ts,t.n<=65535)/\r=vr ts.n++ts.flatMap uO:=by unfold uf at h;grind
theorem agJ{n:Nat}(h:n<=65535):∀y∈vr n,y<256:=λy a=>by unfold vr at a;grind
theorem UO(h:uf ts=cu r)(c:∀t∈ts,∀y∈t,y<256):∀y∈r,y<256:=by obtain⟨a,b,rfl⟩:=Co h;grind[agJ,uO]
theorem abr(h:uf ts=cu r):r.n<=5000000000:=by
 obtain⟨b,c,rfl⟩:=Co h;have d:∀a:List cV,(∀t∈a,t.n<=65535)->(a.flatMap uO).n<=a.n*65537:=by intro a;induction a<;>grind[uO,vr]
 grind[vr]
theorem Hr{t:cV}(h:o7 s=cu t):fx s=cx/\uf [kT qi (pT s)++iM s.cO,rW s.name,qh s.di]=cu t:=by grind[o7]
def ME{t:cV}(h:o7 s=cu t):∀y∈t,y<256:=by refine UO (Hr h).2 λu b y a=>?_;simp only[iZ,jK,uH] at b;rcases b with rfl|rfl|rfl;rcases gH.1 a with h1|h1;exact wW _ _ y h1;exact pX _ y h1;exact UK _ y a;exact UM _ y a
theorem Hs{l:List dw}(h:kH l=cu ts):∀t∈ts,∃s,o7 s=cu t:=by induction l generalizing ts with|nil=>grind[kH]|cons a l ih=>unfold kH at h;grind
section
attribute[local irreducible]wpList Code.wp Calls Oper.wp wpAnyH
theorem DU(next:Nat)(H:next<18446744073709551616)(l:List dL)(v:c7)(H:l.n<=1000000)(hd:∀s∈eM l,s.di.n<=1000000)(C:∀s∈eM l,tU s)(w:cS)(R:gu w v l):
 CP_ 197 #[bU ct next,v] w λe w'=>∃r,e=cj (cg #[r,bU cq (gi 151 (jD next (eM l)))])/\mN w' w.h.s r ((jD next (eM l)).getD [])/\dR w w':=by
 obtain⟨ao,cap,rfl,H,J⟩:=dP R.1;have R:=cz R;have J:=cz J;have S:=qR w;obtain⟨T,N⟩:=sO (jD next (eM l));rw[N.o];go_enter func197,ntmps197;by_cases H:281474976710655<next
 . (obtain rfl:cw=T:=by rw[<-N.o];unfold jD;rw[df (.inl H)]);have H:(281474976710655:Int)<(next:Int):=cN;go_wp2;go_ret2;exact aJ
 have H:¬(281474976710655:Int)<(next:Int):=cN;by_cases Y:32<l.n
 . (obtain rfl:cw=T:=by rw[<-N.o];unfold jD;rw[df (.inr (by rw[iu];exact Y))]);have H:(32:Int)<(l.n:Int):=cN;go_wp2;go_ret2;exact aJ
 have H:¬(32:Int)<(l.n:Int):=cN;have E:vR [8] [next]=cu (kT [8] [next]):=by unfold vR;rw[df];refine⟨by decide,ae,?_⟩;simp[fitAll];omega
 obtain⟨c,j⟩:=dI (kT [8] [next]);rw[j] at E;have H:c.n=8:=by rw[<-j];rfl
 have m:∀y∈c,y<256:=by rw[<-j];exact wW _ _
 have U:=cz λv u W hv I=>GU v u [8] [next] kB W hv I;rw[E] at U;simp only[lx] at U;have I:(match kH (eM l) with|none=>cw|some ts=>uf (c::ts))=T:=by rw[<-N.o,<-j];unfold jD;rw[cZ (by rw[iu];omega)]
 have X:=cz I;have V:=cz (show∀y∈dN [8],(Lit.int cq y).wf=cx by decide);have a7:=cz (Qk (l:=[next]) (λn N=>by grind));have a4:=cz H;have N:=cz m;clear E j H m I;go_upto_region 8 with(first|refine mH S cq (dN [8]) qt uT cN cN rfl rfl rfl λW S=>?_|refine mH S ct (dN [next]) vS Ap cN cN rfl rfl rfl λW S=>?_|(refine ah (U.o _ _ _ (eT.row S.k1 ae (show(1:Nat)<=_ by omega) V.o) (eT.row S.k0 ae (show(1:Nat)<=_ by omega) a7.o)) λr W⟨ho,d⟩=>?_;obtain⟨na,nc,rfl⟩:=dx ho;have V:=cz (uN ho);replace S:=S.Ld d ho ae ae;clear d)|(refine blV S [bX na c.n nc] underlying75 RV cN cN ae ae ant ae λW S=>?_;replace S:=S.Ug ae));replace S:=S.EY (X':=Cn [(bX na c.n nc,c)]) (λB w h p C=>by rw[fM.1 C];exact h.2) (r7 _).mh;have S:=cz S
 go_loopw [8,34] (λtv H wr=>∃(k:Nat)(ps:List (c7×cV))(I:Option Addr)(U:Nat),k<=l.n/\H=bU cq k/\ps.n=k/\tv=bX I (k+1) U/\Hid (kH ((eM l).take k)=cu (ps.map Prod.snd)/\(∀p∈ps,xS p.1)/\
  ∃L,St w cw [] L [⟨22,1,bX I (k+1) U,k+1,((bX na c.n nc,c)::ps).map Prod.fst⟩] (Cn ((bX na c.n nc,c)::ps)) wr)) (λ_ H _=>l.n-(intOf H).m)
 exact⟨0,[],_,1,cN,ae,ae,ae,cz ⟨ae,by simp,_,S.o⟩⟩;clear S;obtain⟨k,ps,I,U,H,rfl,H,rfl,hS⟩:=hrel;obtain⟨a,I,L,S⟩:=hS.o;clear hS;have G:=cz a;have U:=cz I;clear a I;by_cases z:k<l.n
 . (obtain⟨b,o,rfl⟩:=J.o cN;obtain⟨x,hx⟩:=dI (l[k]);obtain⟨D,hD⟩:=fP (cL 11 (iw x));have I:=cz (nD l z (A:=D) (by rw[hx];exact hD));have hm:x∈l:=hx▸mP z;obtain⟨K,Q⟩:=sO (o7 x.todw);have J:=cz λW(d:dR w W)=>XV x D hD (hd _ (gI.2 ⟨x,hm,ae⟩)) (C _ (gI.2 ⟨x,hm,ae⟩)) W ((R.o.cP d).2 x hm);rw[Q.o] at J;have F:kH ((eM l).take (k+1))=K.bind λt=>cu (ps.map Prod.snd++[t]):=by(have h9:(eM l).take (k+1)=(eM l).take k++[x.todw]:=by rw[take_succ,mZ,jE z,hx];rfl);rw[h9,OU,G.o,<-Q.o];grind);have f:=cz F;have M:=cz hD;clear hD hx hm F;cases K with|none=>(obtain rfl:cw=T:=by rw[<-X.o,OV f.o]);go_wp2_with (first|refine AD (R.o.cP S.b).1 z (vu M) I.o ?_|(refine ah (J.o _ S.b) λr W⟨ho,d⟩=>?_;replace S:=S.cP d;clear d)|refine fL ?_|refine fg λW S=>?_);go_ret2;exact aJ|some t=>simp only[lx] at J;go_wp2_with (first|refine AD (R.o.cP S.b).1 z (vu M) I.o ?_|(refine ah (J.o _ S.b) λr W⟨ho,d⟩=>?_;obtain⟨J,K,rfl⟩:=dx ho;have I:=cz (uN ho);replace S:=S.Ld d ho ae ae;clear d)|(refine blV S [bX J t.n K] underlying75 RV cN cN ae ae ant ae λW S=>?_;replace S:=S.xN (k:=0) ae (g:=λ_=>bX J t.n K) (λi hi=>by grind))|refine tA S 0 rfl 0 rfl rfl rfl rfl aiu (λ_=>rfl) CK xZ λg9 c9 W S=>?_|refine fL ?_|refine fg λW S=>?_);go_roundw;refine⟨k+1,ps++[(bX J t.n K,t)],s_ g9 0,c9,cN,by go_num,by simp[H],ae,cz ⟨by rw[f.o];simp,λp C=>?_,L,?_⟩⟩;rcases gH.1 C with h|h;exact U.o p h;rw[fM.1 h];exact I.o;rw[<-uG,nL];have S:=S.pop.pop;refine S.EY (λB w h p C=>?_) (r7 _).mh;rcases gH.1 C with Y|Y;exact h.1 p Y;rw[fM.1 Y];exact h.2;exact pR
 . (obtain rfl:k=l.n:=cN;have a:=G.o;rw[nU (by rw[iu];exact eN _)] at a;have Z:uf (c::ps.map Prod.snd)=T:=by rw[<-X.o,a]);have O:=cz (show∀t∈ps.map Prod.snd,t.n<=5000000000/\∀y∈t,y<256 from λt J=>by obtain⟨s,I⟩:=Hs a t J;exact⟨abr (Hr I).2,ME I⟩);have I:=cz λv W hv=>TJ v (c::ps.map Prod.snd) sp_ (λq h=>by have J:=mP h;rcases iZ.1 J with h7|h7;rw[h7,a4.o];omega;exact iE (O.o _ h7).1 cN) W hv;rw[Z] at I;clear a Z;go_upto_region 16 with(refine ah (I.o _ _ (UN (ps:=(bX na c.n nc,c)::ps) (by simp[H]) S.o0 S.x (λp C=>by rcases iZ.1 C with h|h;rw[h];exact V.o;exact U.o p h) (λp C=>by rcases iZ.1 C with h|h;rw[h];exact N.o;exact(O.o _ (gI.2 ⟨p,h,ae⟩)).2))) λr W⟨ho,d⟩=>?_;replace S:=S.iv d ho ae ae;clear d);cases T with|none=>go_wp2;go_ret2;exact aJ|some bs=>go_wp2;go_ret2;exact bu
end
def Wk(l:cV):fF:=⟨(l.map UInt8.ofNat).toArray⟩
def UP:∀(l:cV)(r:fF),(dN l).foldl (λr(n:Int)=>r.push (UInt8.ofNat n.m)) r=⟨r.data++(l.map UInt8.ofNat).toArray⟩
 | [],r=>by simp[dN]
 |b::l,r=>by
  unfold dN;simp only[yq,zG];have:=UP l (r.push (UInt8.ofNat ((b:Int)).m));unfold dN at this;rw[this];simp[ByteArray.push]
theorem aej{t q:cV}(h:Fa bs=cu (t,q))(c:∀y∈bs,y<256):(∀y∈t,y<256)/\∀y∈q,y<256:=by rcases bs with _|⟨a,_|⟨b,r⟩⟩<;>grind[Fa]
theorem Ql:∀(k:Nat){bs:cV}{ts:List cV}{q:cV},qG k bs=cu (ts,q)->(∀y∈bs,y<256)->(∀t∈ts,∀y∈t,y<256)/\∀y∈q,y<256
 |0,bs,ts,q,h,hb=>by
  grind[qG]
 |k+1,bs,ts,q,h,hb=>by
  unfold qG at h;cases a:qG k bs with
  |none=>rw[a] at h;cases h
  |some p=>
   obtain⟨g,r⟩:=p;rw[a] at h;simp only at h;cases b:Fa r with
   |none=>rw[b] at h;cases h
   |some p2=>
    obtain⟨t,f⟩:=p2;rw[b] at h;cases h;have c:=Ql k a hb;have d:=aej b c.2;refine⟨λu e=>?_,d.2⟩;rcases gH.1 e with h3|h3
    . exact c.1 u h3
    . rw[fM.1 h3];exact d.1
theorem EK(h:vT bs=cu ts)(c:∀y∈bs,y<256):∀t∈ts,∀y∈t,y<256:=by rcases bs with _|⟨a,_|⟨b,r⟩⟩<;>grind[vT,Ql]
theorem St.Qm(S:St w0 d l L O X w)(n:dR w w')(ho:KN w' w.h.s v ts):
 ∃ps:List (c7×cV),ps.map Prod.snd=ts/\(∀p∈ps,xS p.1/\p.2.n<=65535)/\St w0 d l L O (λB w=>X B w/\(yX 22 1 v ps.n (ps.map Prod.fst) B w/\Cn ps B w)) w':=by
 obtain⟨vs,r,a,q⟩:=ho;have i:(vs.zip ts).map Prod.snd=ts:=map_snd_zip cN;have j:(vs.zip ts).map Prod.fst=vs:=map_fst_zip cN;have f:(vs.zip ts).n=ts.n:=by grind
 have e:∀p∈vs.zip ts,mN w' w.h.s p.1 p.2/\p.2.n<=65535:=λp e=>by obtain⟨k,o,rfl⟩:=vJ.1 e;grind
 refine⟨vs.zip ts,i,λp h=>⟨uN (e p h).1,(e p h).2⟩,?_⟩;rw[j,f];refine(S.cP n).DN ((fE 22 1 v _ _ ae ae).and (r7 _)) ⟨⟨c8.jR a,λ_ b c g=>?_⟩,λp h=>⟨c8.jR (e p h).1,λ_ b c g=>?_⟩⟩;have m:=(a.lt b c).1;have:=S.lt b g;omega;have m:=((e p h).1.lt b c).1;have:=S.lt b g;omega
section
variable {x:Nat}
theorem Qn{w:cS}{T:dU}{v:c7}{n:Nat}{l:cV}(f:P.underlying src=some (.slice 5))(e:P.underlying 5=some (.int .u8))(d:P.underlying dT=some .string)(R:c8 w T 1 v n (ej l)):(convert src dT v).run P w=.ok (.string (Wk l)) w:=by
 have h:l.length=n:=by have:=R.1;grind[ej]
 subst h;obtain⟨ao,cap,rfl,c,a⟩:=dP R;rcases vK l.length with h0|h0;obtain rfl:l=[]:=yr h0;rw[run_convert_bytes_string w src dT 5 ao _ cap f e d];cases ao with|none=>rfl|some b=>rfl
 . obtain⟨b,o,rfl⟩:=a h0;rw[run_convert_bytes_string w src dT 5 _ _ cap f e d];rw[run_bytesToString w ⟨b,o,none⟩ l.length cap (dN l) (by
    have i:=run_loadCells_list (P:=P) (w:=w) ⟨b,o,none⟩ (ej l) (λj u g=>by
     rw[show(⟨b,o,none⟩:Addr).add j=⟨b,o+j,none⟩ from by grind[Addr.add]];exact R.cellAt h0 g)
    simp_all[ej,dN]),UP]
   simp[Wk]
theorem aiv(g:a.eval (.tmp x)=v)(f:P.underlying src=some (.slice 5))(e:P.underlying 5=some (.int .u8))(d:P.underlying dT=some .string)(R:∀w,SS w->c8 w T 1 v n (ej l))(b:Region.wanted ⟨some dst,.convert src dT (.tmp x),t2,p,af,gd⟩ (yielded ops a.tmps)=true:=by kernel_rfl):
 YieldsIf P ops SS ⟨some dst,.convert src dT (.tmp x),t2,p,af,gd⟩ (.string (Wk l)) a:=by refine .inl ⟨b,λw c=>?_⟩;grind[execOp,Sem.run_bind,Qn,Result.andThen_ok,Sem.run_pure]
end
def vd(bs:cV):Option dw:=
 match vT bs with
 |some [p0,p1,p2]=>if p0.n<34 then cw else match sw qi (p0.take 34) with
  |none=>cw
  |some ns=>match nZ (p0.drop 34) with
   |none=>cw
   |some cO=>match kW p2 with
    |none=>cw
    |some dd=>cu ⟨ns.getD 0 0,Wk p1,decide (ns.getD 1 0=1),ns.getD 2 0,ns.getD 3 0,ns.getD 4 0,ns.getD 5 0,cO,dd⟩
 |_=>cw
theorem EL{bs:cV}(a:∀y∈bs,y<256):jL bs<256^bs.n:=by grind[LI]
theorem UQ(bs:cV)(k:∀y∈bs,y<256)(q:bs.n=34):∃c d e f g h,sw qi bs=cu [c,d,e,f,g,h]/\c<18446744073709551616/\d<256/\e<18446744073709551616/\f<18446744073709551616/\g<18446744073709551616/\h<256:=by
 have b:sw qi bs=cu (pz qi bs):=by unfold sw;simp_all[okW,qi,sY]
 have j:∀(m:Nat)(l:cV),(∀y∈l,y<256)->jL ((l.drop m).take 8)<18446744073709551616:=λm l a=>by have o:=EL (bs:=(l.drop m).take 8) λy n=>a y (mS (lQ n));have p:256^((l.drop m).take 8).n<=256^8:=QT cN jv;omega
 have i:∀(m:Nat)(l:cV),(∀y∈l,y<256)->jL ((l.drop m).take 1)<256:=λm l a=>by grind[EL,length_take]
 refine⟨_,_,_,_,_,_,b,?_,?_,?_,?_,?_,?_⟩;exact j 0 bs k;grind;grind;grind;grind;grind
def SEX(w0:cS)(d:Option Nat)(l:cV)(rs:List R4)(X:cV->cS->Prop):cS->Prop:=λW=>∃L O,St w0 d l L O X W/\∀r∈rs,r∈L
section
def SEX.row(h:SEX w0 d l rs X W)(k:Nat){r:R4}(a:rs[k]?=cu r):cM W r.b r.t r.n r.f:=by obtain⟨L,O,S,b⟩:=h;exact(S.row r (b r (kA a))).1
def SEX.x(h:SEX w0 d l rs X W):∃B,X B W:=by obtain⟨L,O,S,a⟩:=h;exact⟨_,S.x⟩
def MF(S:St w0 d l L O X w){id:Nat}(b:P.follows .mixedOrders=cx)(rs:List R4)(c:∀r∈rs,r∈L)(h:∀W,St w0 d l L O X W->wpAnyH P .any ops Q (SEX w0 d l rs X) ops.s (Array.replicate ops.s cy) a W):(Code.region id ops cx).wp P Q a w:=
 wp_region_held_drew b ⟨L,O,S.drew,c⟩ λ_=>h _ S.drew
end
def UR:lD prog 22:=⟨⟨_,oT,ae⟩,dC⟩
instance in5a1b2 :ru 22:=⟨UR⟩
def ve:Gr prog 22 1:=⟨dC,λW=>by rfl⟩
def Bh(h:KN w base v ts):∃a c,v=bX a ts.n c:=by obtain⟨vs,d,b,_⟩:=h;exact dx b
theorem aix{a b c:cV}(h:ps.map Prod.snd=[a,b,c]):∃d e f,ps=[(d,a),(e,b),(f,c)]:=by rcases ps with _|⟨⟨d,q0⟩,_|⟨⟨e,q1⟩,_|⟨⟨f,q2⟩,_|⟨x,ps⟩⟩⟩⟩<;>simp at h;simp_all
theorem um(l:cV)(k:Nat):(ej l).take k=ej (l.take k):=by simp_all[ej]
theorem xo(l:cV)(k:Nat):(ej l).drop k=ej (l.drop k):=by simp_all[ej]
theorem Bj{p:cV}(h:yX 5 1 v p.n (ej p) B w):∃a c,v=bX a p.n c/\p.n<=c:=by obtain⟨a,c,e,hc,_⟩:=dP h.1;grind
section
attribute[local irreducible]wpList Code.wp Calls Oper.wp wpAnyH
theorem abt(bs:cV)(u:c7)(H:bs.length<=1000000000)(w:cS)(A:eT .u8 w u (dN bs))(hc:yI u):
 CP_ 196 #[u] w λe w'=>∃B,e=.returned (.tuple #[.agg B,.int .i64 (gi 151 (vd bs))])/\zm w' w.heap.size B ((vd bs).getD oH)/\dR w w':=by
 have J:∀x∈bs,x<256:=BV (by obtain⟨_,_,_,_,h,_⟩:=A;exact h);have R:=cz λW(g:dR w W)=>PK u bs cN W (A.cP g) hc;have S:=qR w;obtain⟨T,I⟩:=dI (vd bs);have H:=cz I;rw[I];clear I A hc;go_enter func196,ntmps196;cases f:vT bs with
 |none=>
  obtain rfl:none=T:=by rw[<-H.o];unfold vd;rw[f]
  rw[f] at R;clear f;go_wp2_with first|(refine ah (R.o _ S.b) λr W⟨ho,g⟩=>?_;replace S:=S.cP g;clear g ho)|(refine mA ?_;exact⟨_,ae,sI _ _,S.b⟩)|refine fL ?_|refine fg λW S=>?_
 |some ts=>
  have s:=EK f J;rw[f] at R;simp only[lx] at R;by_cases M:ts.length=3
  case neg=>
   obtain rfl:none=T:=by
    rw[<-H.o];unfold vd;rw[f];rcases ts with _|⟨a,_|⟨b,_|⟨c,_|⟨e,ts⟩⟩⟩⟩<;>first|rfl|exact absurd ae M
   have I:((ts.length:Int) !=3)=true:=by rw[fJ];omega
   clear f
   go_wp2_with first|(refine ah (R.o _ S.b) λr W⟨ho,g⟩=>?_;obtain⟨N,U,rfl⟩:=Bh ho;replace S:=S.cP g;clear g ho)|(refine mA ?_;exact⟨_,ae,sI _ _,S.b⟩)|refine fL ?_|refine fg λW S=>?_
  obtain⟨d,k,l,rfl⟩:∃d k l,ts=[d,k,l]:=by
   rcases ts with _|⟨a,_|⟨b,_|⟨c,_|⟨e,ts⟩⟩⟩⟩<;>first|exact⟨_,_,_,ae⟩|simp at M
  have L:=s d eQ;have Y:=s k eQ;have Z:=s l eQ;have m:(if d.length<34 then none else match sw qi (d.take 34) with|none=>none|some ns=>match nZ (d.drop 34) with|none=>none|some cO=>match kW l with|none=>none|some dd=>some (⟨ns.getD 0 0,Wk k,decide (ns.getD 1 0=1),ns.getD 2 0,ns.getD 3 0,ns.getD 4 0,ns.getD 5 0,cO,dd⟩:dw))=T:=by
   rw[<-H.o];unfold vd;rw[f]
  clear f s M
  go_upto_region 2 with(first|(refine ah (R.o _ S.b) λr W⟨ho,g⟩=>?_;obtain⟨N,U,rfl⟩:=Bh ho;obtain⟨ps,H,I,J⟩:=S.Qm g ho;replace S:=J;clear J g ho;obtain⟨V,v1,J,rfl⟩:=aix H;obtain⟨rb,ro,rfl⟩:∃rb ro,N=s_ rb ro:=(by obtain⟨_,_,e1,_,h⟩:=dP S.x.2.1.1;grind);have N:l.length<=65535:=(I (J,l) eQ).2;clear H I;obtain⟨I,c0,rfl,H⟩:=Bj (p:=d) (S.x.2.2 (V,d) eQ);obtain⟨a1,c1,rfl,H⟩:=Bj (p:=k) (S.x.2.2 (v1,k) eQ);obtain⟨a2,c2,rfl,b7⟩:=Bj (p:=l) (S.x.2.2 (J,l) eQ);replace S:=S.EY (X':=λB w=>yX 22 1 (.slice (s_ rb ro) 3 U) 3 [.slice I d.length c0,.slice a1 k.length c1,.slice a2 l.length c2] B w/\Cn [(.slice I d.length c0,d),(.slice a1 k.length c1,k),(.slice a2 l.length c2,l)] B w) (λB w h=>h.2) ((fE _ _ _ _ _ ae ae).and (r7 _)).mh;simp only[lr,tX,oQ,reduceAdd])|refine fg λW S=>?_)
  by_cases V:d.length<34
  . obtain rfl:none=T:=by rw[<-m,df V]
    have H:(d.length:Int)<34:=cN
    go_wp2_with first|refine zC (c8.cellAt S.x.1.1 (j:=0) cN ae) ?_|(refine mA ?_;exact⟨_,ae,sI _ _,S.b⟩)|refine fL ?_|refine fg λW S=>?_
  have H:¬(d.length:Int)<34:=cN;rw[cZ V] at m;have o:∀y∈d.take 34,y<256:=λy H=>L y (lQ H);have E:∀y∈d.drop 34,y<256:=λy H=>L y (mS H);obtain⟨n0,V,n2,n3,n4,U,H,J,J,J,J,J,J⟩:=UQ (d.take 34) o bj;have J:=cz λv u W hv A hc=>JX v u qi (d.take 34) kB W hv A hc;rw[H] at m J;simp only[lx] at J;obtain⟨rp,O⟩:=dI (nZ (d.drop 34));obtain⟨rd,N⟩:=dI (kW l);obtain⟨G,hG⟩:=fP (cL 3 (dF (rp.getD cX)));have C3:=cz λu W A hc=>wX u (d.drop 34) W A hc;have C4:=cz λv W A hc=>RJ l v W cN A hc;rw[O,dk hG] at C3;rw[N] at C4;rw[O,N] at m;have q:=cz m;have HG:=cz hG;have HB:=cz (And.intro o (And.intro E (And.intro Y Z)));have a9:=cz (show∀y∈dN qi,(Lit.int .i64 y).wf=true by decide);have C:34<=c0:=cN;have n:34<=d.length:=cN;clear m O N hG H o E L Y Z
  go_upto_region 8 with(first|(first|refine zC (c8.cellAt S.x.1.1 (j:=0) cN ae) ?_|refine zC (c8.cellAt S.x.1.1.1 (j:=0) cN ae) ?_)|refine mH S .i64 (dN qi) qt uT cN cN rfl rfl rfl λW S=>?_|refine Uv ve ae ae C ?_|(refine ah (J.o _ _ _ (eT.row S.k0 ae (show(6:Nat)<=_ by omega) a9.o) (c8.u' (by have J:=c8.take (S.x.2 (.slice I d.length c0,d) eQ).1 n;rw[sM,um] at J;exact J) HB.o.1) ⟨_,_,_,ae,C⟩) λr W⟨ho,g⟩=>?_;obtain⟨na,H,rfl⟩:=dx ho;replace S:=S.Ld g ho ae ae;clear ho g)|refine zi ve ae ae n ?_|refine je S (C3.o _ _ (c8.u' (by have J:=c8.CU (S.x.1.2 (.slice I d.length c0,d) eQ).1 n;rw[sM,xo] at J;exact J) HB.o.2.1) ⟨_,_,_,rfl,cN⟩) λW7 S=>?_|refine fg λW S=>?_)
  cases rp with
  |none=>
   obtain rfl:none=T:=q.o
   go_wp2_with first|(refine mA ?_;exact⟨_,ae,sI _ _,S.b⟩)|refine fL ?_|refine fg λW S=>?_
  |some cO=>
   simp only[lx] at HG S
   go_upto_region 11 with(first|refine zC (c8.cellAt S.x.1.1.1 (j:=2) cN ae) ?_|(refine ah (C4.o _ _ (c8.u' (S.x.1.2 (.slice a2 l.length c2,l) eQ).1 HB.o.2.2.2) ⟨_,_,_,ae,b7⟩) λr W⟨ho,g⟩=>?_;obtain⟨da,dc,rfl⟩:=dx ho;replace S:=S.iv g ho ae ae;clear ho g))
   cases rd with
   |none=>
    obtain rfl:none=T:=q.o
    go_wp2_with (first
   |(refine mA ?_;exact⟨_,ae,sI _ _,S.b⟩)
   |refine fL ?_
   |refine fg λW S=>?_)
   |some dd=>
    simp only[lx] at S|-;obtain⟨N,Q⟩:=dI (decide (V=1));have F:((V:Int)==1)=N:=by
     rw[<-Q];by_cases h:V=1
     . rw[h];rfl
     . rw[jG h,lR];omega
    have a7:=cz F;obtain⟨ty,z⟩:∃t:dw,t=⟨n0,Wk k,N,n2,n3,n4,U,cO,dd⟩:=⟨_,ae⟩;obtain rfl:some ty=T:=by rw[<-q.o,z,<-Q];rfl
    obtain⟨D,hD⟩:=fP (cL 11 (iw ⟨ty,da,dc⟩));have X:D=cL 11 (iw ⟨⟨n0,Wk k,N,n2,n3,n4,U,cO,dd⟩,da,dc⟩):=by rw[hD,z]
    have HD:=cz hD;have Y:=cz X;have a8:=cz z;have H:IntKind.i64.wrap (U:Int)=(U:Int):=kS _ cN;obtain⟨H,I,rfl⟩:∃H I,na=s_ H I:=by
     obtain⟨_,_,e1,_,h⟩:=dP S.x.2.1
     grind
    clear hD X Q F z q
    go_upto_region 13 with(fail)
    refine MF S dC [⟨W7.heap.size,106,3,dF cO⟩] CI λW S=>?_;refine dh 0 _ ?_;refine dh 1 (dE H (I+0)) ?_;refine gZ 2 (.int .u64 n0) ae (gO (λw h=>by obtain⟨_,i⟩:=h.x;exact c8.cellAt i.2.1 (j:=0) eQ ae) ae fZ) ?_;refine dh 3 _ ?_;refine dh 4 (dE rb (ro+1)) ?_;refine gZ 5 (.slice a1 k.length c1) ae (gO (λw h=>by obtain⟨_,i⟩:=h.x;exact c8.cellAt i.1.1.1 (j:=1) cN ae) ae UR) ?_;refine gZ 6 (.string (Wk k)) ae (aiv ae oT yU za (λw h=>by obtain⟨_,i⟩:=h.x;exact(i.1.2 (.slice a1 k.length c1,k) eQ).1)) ?_;refine dh 7 _ ?_;refine dh 8 (dE H (I+1)) ?_;refine gZ 9 (.int .u64 V) ae (gO (λw h=>by obtain⟨_,i⟩:=h.x;exact c8.cellAt i.2.1 (j:=1) eQ ae) ae fZ) ?_;refine gZ 10 (.bool N) ae (Or.inl ⟨dC,λw N=>by have N:=a7.o;go_simp⟩) ?_;refine dh 11 _ ?_;refine dh 12 (dE H (I+2)) ?_;refine gZ 13 (.int .u64 n2) ae (gO (λw h=>by obtain⟨_,i⟩:=h.x;exact c8.cellAt i.2.1 (j:=2) eQ ae) ae fZ) ?_;refine dh 14 _ ?_;refine dh 15 (dE H (I+3)) ?_;refine gZ 16 (.int .u64 n3) ae (gO (λw h=>by obtain⟨_,i⟩:=h.x;exact c8.cellAt i.2.1 (j:=3) eQ ae) ae fZ) ?_;refine dh 17 _ ?_;refine dh 18 (dE H (I+4)) ?_;refine gZ 19 (.int .u64 n4) ae (gO (λw h=>by obtain⟨_,i⟩:=h.x;exact c8.cellAt i.2.1 (j:=4) eQ ae) ae fZ) ?_;refine dh 20 _ ?_;refine dh 21 (dE H (I+5)) ?_;refine gZ 22 (.int .u64 U) ae (gO (λw h=>by obtain⟨_,i⟩:=h.x;exact c8.cellAt i.2.1 (j:=5) eQ ae) ae fZ) ?_;refine dh 23 (.int .i64 U) ?_;refine gZ 24 (.agg G) ae (rE aI ae HG.o fK) ?_;refine dh 25 _ ?_;refine gZ 26 (.agg D) ae (y8 ae (by rw[Y.o,HG.o];kernel_rfl)) ?_;refine kI 27 λK H=>?_;refine kq S 2 ae ae ae HD.o uV (mI _) λW S=>?_;refine gq H ?_;clear H K;refine dh 28 _ ?_;refine qx ?_
    go_wp2_with (refine mA ?_;exact⟨_,ae,⟨⟨ty,da,dc⟩,ae,ae,by have J:=S.o0;unfold dL.dv;rw[a8.o];exact J⟩,S.b⟩)
def ajT(dst:Nat)(src dT:dU)(x:Nat)(h:wpList P ops Q (⟨cu dst,.convert src dT (.tmp x),t2,p,af,cw⟩::rest) a w):wpList P ops Q (⟨cu dst,.convert src dT (.tmp x),t2,p,af,cw⟩::rest) a w:=h
def ahO{x:Nat}(f:a.eval (.tmp x)=v)(e:P.underlying src=some (.slice 5))(d:P.underlying 5=some (.int .u8))(c:P.underlying dT=some .string)(R:c8 w T 1 v n (ej l))(h:wpList P ops Q rest (a.put (some dst) (.string (Wk l))) w):wpList P ops Q (⟨some dst,.convert src dT (.tmp x),t2,p,af,none⟩::rest) a w:=by refine mC ae λK b=>?_;unfold Oper.wp execOp;simp only[f,lh,Qn e d c R,nW];exact b _ _ h
theorem agK{m:cV}(d:∀y∈l,y<256)(e:∀y∈m,y<256)(h:Wk l=Wk m):l=m:=by
 unfold Wk at h;have b:l.map UInt8.ofNat=m.map UInt8.ofNat:=by grind
 have c:(l.map UInt8.ofNat).map UInt8.toNat=(m.map UInt8.ofNat).map UInt8.toNat:=by rw[b]
 have a:∀k:cV,(∀y∈k,y<256)->(k.map UInt8.ofNat).map UInt8.toNat=k:=λk f=>by
  rw[wO];conv=>rhs;rw[<-map_id k]
  grind[map_congr_left,UInt8.toNat_ofNat']
 rwa [a l d,a m e] at c
def DV(v u:c7)(l m:cV)(f g:dU)(k n:Nat)(i:∀y∈l,y<256)(j:∀y∈m,y<256)(w:cS)(a:c8 w f 1 v k (ej l))(b:c8 w g 1 u n (ej m)):CP_ 32 #[v,u] w λe w'=>e=.returned (.bool (decide (l=m)))/\w=w':=by
 have c:((Wk l).toList==(Wk m).toList)=decide (l=m):=by rw[XT];by_cases h:l=m;rw[h];simp;rw[jG h,jG (λe=>h (agK i j e))]
 have d:=cz c;clear c;have a:=cz a;have b:=cz b;go_enter func32,ntmps32;go_wp2_with (first|((with_reducible refine ajT 6 22 9 5 ?_);refine ahO ae oT yU za a.o ?_)|((with_reducible refine ajT 8 22 9 7 ?_);refine ahO ae oT yU za b.o ?_));go_ret;exact⟨by rw[d.o];rfl,ae⟩
def mK:List cV->Option (List dw)
 | []=>cu []
 |t::ts=>match vd t with
  |none=>cw
  |some s=>match mK ts with
   |none=>cw
   |some l=>cu (s::l)
theorem OW(l:List cV)(t:cV):mK (l++[t])=match mK l with
 |none=>cw
 |some ss=>match vd t with
  |none=>cw
  |some s=>cu (ss++[s]):=by
 induction l<;>grind[mK]
theorem OX{l:List cV}(h:mK (l.take k)=cw):mK l=cw:=by rw[<-Aj k l];generalize l.drop k=m;generalize l.take k=n at h;induction n<;>grind[mK]
theorem RW{l:List cQ}(a:∀y∈bs,y<256)(h:s7 k bs=cu l):∀q∈l,dD q:=by induction k generalizing l<;>grind[s7,xj]
theorem Fp{l:List cQ}(h:kW bs=cu l):s7 (bs.n/16) bs=cu l/\bs.n<=64000/\ou l=cx:=by grind[kW]
theorem MG{bs:cV}{l:List cQ}(a:∀y∈bs,y<256)(h:kW bs=cu l):∀q∈l,dD q:=RW a (Fp h).1
theorem RX{bs:cV}{l:List cQ}(h:kW bs=cu l):l.n<=4000:=by obtain⟨a,b,_⟩:=Fp h;grind[XK]
theorem Ht{bs:cV}{s:dw}(b:∀y∈bs,y<256)(h:vd bs=cu s):tU s/\s.di.n<=4000:=by
 unfold vd at h;split at h;next p0 p1 p2 hs=>have a:=EK hs b;split at h;cases h;split at h;cases h;next ns hn=>split at h;cases h;next cO hr=>split at h;cases h;next dd hd=>cases h;refine⟨⟨xj (λy c=>a p0 eQ y (mS c)) hr,λq d=>?_⟩,?_⟩;grind[MG];grind[RX]
 cases h
def lM(bs:cV):Option (Nat×List dw):=
 match vT bs with
 |none=>cw
 |some ts=>if ts.n<1∨33<ts.n then cw else match sw [8] (ts.headD []) with
  |none=>cw
  |some ns=>match mK (ts.drop 1) with
   |none=>cw
   |some l=>match jD (ns.getD 0 0) l with
    |none=>cw
    |some b=>if b=bs then cu (ns.getD 0 0,l) else cw
theorem XW(ao:Option Addr)(c y s:Nat)(n m k:Nat):Value.ownBlock (bX (lz ao c y s) n k)=Value.ownBlock (bX ao m c):=by unfold lz;split;cases ao<;>rfl;cases ao with|none=>rfl|some x=>grind[Value.ownBlock,Addr.add]
theorem aek{c:Nat}(h:yX e z (bX ao n c) n xs B w)(a:i<=n):yX e z (bX (lz ao c i z) (n-i) (c-i)) (n-i) (xs.drop (i*z)) B w:=
 ⟨c8.CU h.1 a,λf b d=>h.2 cN b (by grind[XW])⟩
def Fq{l:List dw}{b:cV}(h:jD n l=cu b):∀y∈b,y<256:=by unfold jD at h;split at h;cases h;split at h;cases h;next ts hts=>refine UO h λt c=>?_;rcases iZ.1 c with rfl|h2;exact wW _ _;obtain⟨s,a⟩:=Hs hts t h2;exact ME a
def agL(w':cS)(base:Nat)(r:c7)(l:List dw):Prop:=∃m,Cj w' base r m/\eM m=l
def aiy:Gr prog 75 1:=⟨dC,λW=>by rfl⟩
theorem OY(bs:cV)(u:c7)(d3:bs.n<=1000000000)(Z:∀y∈bs,y<256)(w:cS)(R:c8 w 5 1 u bs.n (ej bs)):
 CP_ 150 #[u] w λe w'=>∃r,e=cj (cg #[bU ct (((lM bs).map Prod.fst).getD 0:Nat),r,bU cq (gi 151 (lM bs))])/\agL w' w.h.s r (((lM bs).map Prod.snd).getD [])/\dR w w':=by
 obtain⟨ua,uc,rfl,c6,d4⟩:=dP R;have HR:=cz R;have U:=cz λW(d:dR w W)=>PK _ bs cN W (c8.u' (HR.o.cP d) Z) ⟨_,_,_,ae,c6⟩;have S:=qR w;obtain⟨T,hT⟩:=dI (lM bs);rw[hT];have J:∀W B,Cj W B (bX cw 0 0) []:=λW B=>⟨iD _ _ _ _,λx f=>by cases f⟩;have J:=cz J;go_enter func150,ntmps150;cases i:vT bs with
 |none=>
  obtain rfl:cw=T:=by rw[<-hT];unfold lM;rw[i]
  rw[i] at U;go_wp2_with (refine ah (U.o _ S.b) λr W⟨ho,d⟩=>?_;replace S:=S.cP d);go_ret3;exact⟨_,ae,⟨[],J.o _ _,ae⟩,S.b⟩
 |some ts=>
  have D:=EK i Z;rw[i] at U;simp only[lx] at U;by_cases h1:ts.n<1
  . obtain rfl:cw=T:=by rw[<-hT];unfold lM;rw[i];simp only[h1,true_or,oR]
    have i1:(ts.n:Int)<1:=cN
    go_wp2_with (refine ah (U.o _ S.b) λr W⟨ho,d⟩=>?_;obtain⟨ra,rc,rfl⟩:=Bh ho;replace S:=S.cP d)
    go_ret3;exact⟨_,ae,⟨[],J.o _ _,ae⟩,S.b⟩
  have i1:¬(ts.n:Int)<1:=cN;by_cases V:33<ts.n
  . obtain rfl:cw=T:=by rw[<-hT];unfold lM;rw[i];simp only[V,or_true,oR]
    have i2:(33:Int)<(ts.n:Int):=cN
    go_wp2_with (refine ah (U.o _ S.b) λr W⟨ho,d⟩=>?_;obtain⟨ra,rc,rfl⟩:=Bh ho;replace S:=S.cP d)
    go_ret3;exact⟨_,ae,⟨[],J.o _ _,ae⟩,S.b⟩
  have i2:¬(33:Int)<(ts.n:Int):=cN;have Y:(match sw [8] (ts.headD []) with|none=>cw|some ns=>match mK (ts.drop 1) with|none=>cw|some l=>match jD (ns.getD 0 0) l with|none=>cw|some b=>if b=bs then cu (ns.getD 0 0,l) else cw)=T:=by
   rw[<-hT];unfold lM;rw[i];simp only[h1,V,or_self,mq]
  obtain⟨gn,z⟩:=dI (sw [8] (ts.headD []));have C2:=cz λv u W hv hu hc=>JX v u [8] (ts.headD []) kB W hv hu hc;rw[z] at Y C2;have c2:∀ns,gn=cu ns->∃A,A<18446744073709551616/\ns=[A]:=by
   intro ns h;rw[h] at z;unfold sw at z;split at z
   . next hc=>
     cases z;refine⟨jL ((ts.headD []).take 8),?_,ae⟩;have d:∀y∈(ts.headD []).take 8,y<256:=λy hy=>by
      have q:=lQ hy;rcases ts with _|⟨t,ts⟩
      . cases q
      . exact D t (nC ..) y q
     have h1:=EL d;have V:256^((ts.headD []).take 8).n<=256^8:=QT cN bj;omega
   . cases z
  have b8:=cz (show∀y∈dN [8],(Lit.int cq y).wf=cx by decide)
  go_upto_region 5 with(first|(refine ah (U.o _ S.b) λr W⟨ho,d⟩=>?_;obtain⟨ra,rc,rfl⟩:=Bh ho;obtain⟨ps,F,b2,S9⟩:=S.Qm d ho;replace S:=S9;have M:ps.n=ts.n:=(by rw[<-F,mQ]);replace S:=S.EY (X':=λB w=>yX 22 1 (bX ra ts.n rc) ts.n (ps.map Prod.fst) B w/\Cn ps B w) (λB w h=>(by rw[<-M];rw[<-M] at h;exact h.2)) ((fE _ _ _ _ _ ae ae).and (r7 _)).mh;obtain⟨rb,ro,rfl⟩:∃rb ro,ra=s_ rb ro:=(by obtain⟨_,_,e1,_,h⟩:=dP S.x.1.1;grind);obtain⟨v0,O,a,I⟩:∃v0 O a,ps=(v0,O)::a:=(by have:=M;rcases ps with _|⟨⟨v0,O⟩,a⟩;simp at this;omega;exact⟨v0,O,a,ae⟩);obtain⟨a0,c0,rfl,b9⟩:=Bj (p:=O) (S.x.2 (v0,O) (by rw[I];simp)))|refine mH S cq (dN [8]) qt uT cN cN rfl rfl rfl λW S=>?_|refine zC (c8.cellAt S.x.1.1 (j:=0) cN (by rw[I];rfl)) ?_|(refine ah (C2.o _ _ _ (eT.row S.k0 ae (show(1:Nat)<=_ by omega) b8.o) (by have q:=c8.u' (S.x.2 (bX a0 O.n c0,O) (by rw[I];simp)).1 (D O (by rw[<-F,I];simp));rw[<-F,I];exact q) ⟨_,_,_,ae,b9⟩) λr W⟨ho,d⟩=>?_;obtain⟨na,nc,rfl⟩:=dx ho;replace S:=S.Ld d ho ae ae))
  cases gn with
  |none=>
   obtain rfl:cw=T:=Y;go_wp2;go_ret3;exact⟨_,ae,⟨[],J.o _ _,ae⟩,S.b⟩
  |some ns=>
   obtain⟨A,c3,rfl⟩:=c2 ns ae;simp only[lx] at S|-;have hN:ts.n-1=a.n:=by have:=M;rw[I] at this;simp at this;omega
   have hw:IntKind.i64.wrap ((ts.n:Int)-1)=((a.n:Nat):Int):=by rw[kS _ cN];omega
   have d2:a.n<=32:=cN;have a7:1<=ts.n:=cN;have c1:(ts.drop 1)=a.map Prod.snd:=by rw[<-F,I];rfl
   have Q:(match mK (a.map Prod.snd) with|none=>cw|some l=>match jD A l with|none=>cw|some b=>if b=bs then cu (A,l) else cw)=T:=by
    rw[<-c1];exact Y
   have b7:=cz (show∀p∈a,xS p.1/\p.2.n<=65535/\∀y∈p.2,y<256 from λp hp=>by
    have q:p∈ps:=by rw[I];exact lu _ hp
    exact⟨(b2 p q).1,(b2 p q).2,D p.2 (by rw[<-F];exact gI.2 ⟨p,q,ae⟩)⟩)
   skip
   go_upto_region 9 with(first|refine J9 S (n:=a.n) Jn rfl rfl cN xZ rfl rfl λg W S=>?_|(refine zi aiy ae ae a7 ?_;obtain⟨md,b1⟩:=dI (lz (s_ rb ro) rc 1 1);replace S:=S.EY (X':=λB w=>(yX 22 1 (bX md a.n (rc-1)) a.n (a.map Prod.fst) B w/\Cn a B w/\yX 82 1 (bX na 1 nc) 1 [bU ct A] B w)/\oL [] B w) (λB w h=>⟨⟨by have q:=aek h.1.1 a7;rw[b1,hN,I] at q;exact q,λp hp=>h.1.2 p (by rw[I];exact lu _ hp),h.2⟩,λx f=>by cases f⟩) (((fE _ _ _ _ _ ae ae).and ((r7 _).and (fE _ _ _ _ _ ae ae))).and (jn _)).mh;rw[b1,hN]))
   have b6:=cz ((fE 22 1 (bX md a.n (rc-1)) a.n (a.map Prod.fst) ae ae).and ((r7 a).and (fE 82 1 (bX na 1 nc) 1 [bU ct A] ae ae)));have S:=cz S
   go_loopw [8,48] (λlv kv wr=>∃(k:Nat)(m:List dL)(g c:Nat),k<=a.n/\kv=bU cq k/\m.n=k/\lv=bX (s_ g 0) m.n c/\Hid (mK ((a.map Prod.snd).take k)=cu (eM m)/\(∀x∈m,rH w.h.s x)/\(∀s∈eM m,tU s/\s.di.n<=4000)/\
    ∃L,St w cw [] L [⟨109,11,bX (s_ g 0) m.n c,m.n,jh m⟩] (λB w=>(yX 22 1 (bX md a.n (rc-1)) a.n (a.map Prod.fst) B w/\Cn a B w/\yX 82 1 (bX na 1 nc) 1 [bU ct A] B w)/\oL m B w) wr)) (λ_ kv _=>a.n-(intOf kv).m)
   case atStart=>exact⟨0,[],g,a.n,cN,ae,ae,ae,cz ⟨ae,(by intro x f;cases f),(by intro x f;cases f),_,S.o⟩⟩
   case round=>
    obtain⟨k,m,g,c,hk,rfl,a3,rfl,hS⟩:=hrel;obtain⟨E,a9,a5,L,S⟩:=hS.o;have b5:=cz a3;have d1:m.n<=32:=cN;by_cases D:k<a.n
    . obtain⟨⟨vk,H⟩,a4⟩:∃p,a[k]?=cu p:=⟨_,jE D⟩;have o:=kA a4;obtain⟨c4,c5,N⟩:=b7.o _ o;simp only at c4 c5 N;obtain⟨ak,ck,rfl,a8⟩:=Bj (p:=H) (S.x.1.2.1 (vk,H) o);obtain⟨lb,lo,rfl⟩:∃lb lo,md=s_ lb lo:=by
       obtain⟨_,_,e1,_,h⟩:=dP S.x.1.1.1
       grind
      have C:Hid ((a.map Prod.fst)[k]?=cu (.slice ak H.n ck)):=cz (by rw[rO,a4];rfl);obtain⟨rp,a6⟩:=dI (vd H);have C5:=cz λu W hu hc=>abt H u cN W hu hc;rw[a6] at C5;have G:mK ((a.map Prod.snd).take (k+1))=rp.bind λs=>cu (eM m++[s]):=by
       have q:(a.map Prod.snd).take (k+1)=(a.map Prod.snd).take k++[H]:=by
        rw[take_succ,rO,a4];rfl
       rw[q,OW,E,<-a6];simp only;cases vd H<;>rfl
      have K:=cz (show∀s,rp=cu s->tU s/\s.di.n<=4000 from λs hs=>Ht N (a6.trans hs));clear a3;cases rp with
      |none=>
       obtain rfl:cw=T:=by rw[<-Q,OX G]
       go_wp2_with first|refine zC (c8.cellAt S.x.1.1.1 cN C.o) ?_|(refine ah (C5.o _ _ (c8.u' (S.x.1.2.1 (bX ak H.n ck,H) o).1 N) ⟨_,_,_,ae,a8⟩) λB W⟨⟨y,hB,hy,ho⟩,d⟩=>?_;replace S:=S.cP d)|refine fg λW S=>?_
       go_ret3;exact⟨_,ae,⟨[],J.o _ _,ae⟩,S.b⟩
      |some s=>
       simp only[lx] at C5
       go_wp2_with first|refine zC (c8.cellAt S.x.1.1.1 cN C.o) ?_|(refine ah (C5.o _ _ (c8.u' (S.x.1.2.1 (bX ak H.n ck,H) o).1 N) ⟨_,_,_,ae,a8⟩) λB W⟨⟨y,hB,hy,ho⟩,d⟩=>?_;have b4:=cz (show rH w.h.s y from λhn b d=>iE S.fr.size ((sH.of ho).2 hn b d));replace S:=S.Bd d ho)|refine tA S 0 rfl 0 rfl rfl rfl rfl Jn (mI _) CK xZ λg9 c9 W S=>?_|refine fL ?_|refine fg λW S=>?_
       go_roundw
       case rel=>
        refine⟨k+1,m++[y],g9,c9,cN,by go_num,by rw[ji,b5.o];rfl,by rw[ji];rfl,cz ⟨?_,λx f=>?_,λx f=>?_,L,?_⟩⟩
        . rw[G,show eM (m++[y])=eM m++[y.todw] by unfold eM;rw[nL];rfl,hy];rfl
        . rcases gH.1 f with h|h
          . exact a9 x h
          . rw[fM.1 h];exact b4.o
        . rw[show eM (m++[y])=eM m++[y.todw] by unfold eM;rw[nL];rfl,hy] at f;rcases gH.1 f with h|h
          . exact a5 x h
          . rw[fM.1 h];exact K.o s ae
        . rw[ji,xl,UA];have S:=S.pop.pop;refine S.EY (λB w h=>⟨h.1.1,λx f=>?_⟩) (b6.o.and (jn _)).mh;rcases gH.1 f with V|V
          . exact h.1.2 x V
          . rw[fM.1 V];exact h.2
       case measure=>exact pR
    . obtain rfl:k=a.n:=cN;have E:=E;rw[nU (by rw[mQ];exact eN _)] at E;obtain⟨nb,no,rfl⟩:∃nb no,na=s_ nb no:=by
       obtain⟨_,_,e1,_,h⟩:=dP S.x.1.2.2.1
       grind
      obtain⟨eb,a1⟩:=dI (jD A (eM m));have X:(eb.bind λb=>if b=bs then cu (A,eM m) else cw)=T:=by rw[<-Q,E,<-a1];simp only;cases jD A (eM m)<;>rfl
      have C6:=cz λv W R=>DU A c3 m v cN (λs hs=>iE (a5 s hs).2 cN) (λs hs=>(a5 s hs).1) W R;rw[a1] at C6;have b3:=cz (show∀b,eb=cu b->∀y∈b,y<256 from λb d=>Fq (a1.trans d));clear a3;cases eb with
      |none=>
       obtain rfl:cw=T:=X
       go_wp2_with first|refine zC (c8.cellAt S.x.1.2.2.1 (j:=0) cN ae) ?_|(refine ah (C6.o _ _ ⟨S.q0,λx f=>(S.x.2 x f).1⟩) λr W⟨ho,d⟩=>?_;replace S:=S.cP d)
       go_ret3;exact⟨_,ae,⟨[],J.o _ _,ae⟩,S.b⟩
      |some b=>
       have C7:=cz λv W R1 R2=>DV v (bX ua bs.n uc) b bs 5 5 b.n bs.n (b3.o b ae) Z W R1 R2;obtain⟨eq,a2⟩:=dI (decide (b=bs));rw[a2] at C7;cases eq with
       |false=>
        obtain rfl:cw=T:=by rw[<-X];simp only[xw];rw[cZ (yw a2)]
        go_wp2_with first|refine zC (c8.cellAt S.x.1.2.2.1 (j:=0) cN ae) ?_|(refine ah (C6.o _ _ ⟨S.q0,λx f=>(S.x.2 x f).1⟩) λr W⟨ho,d⟩=>?_;replace S:=S.iv d ho ae ae)|refine mY (C7.o _ _ S.q0 (HR.o.cP S.b)) ?_
        go_ret3;exact⟨_,ae,⟨[],J.o _ _,ae⟩,S.b⟩
       |true=>
        obtain rfl:cu (A,eM m)=T:=by rw[<-X];simp only[xw];rw[df (l6 a2)]
        go_wp2_with first|refine zC (c8.cellAt S.x.1.2.2.1 (j:=0) cN ae) ?_|(refine ah (C6.o _ _ ⟨S.q0,λx f=>(S.x.2 x f).1⟩) λr W⟨ho,d⟩=>?_;replace S:=S.iv d ho ae ae)|refine mY (C7.o _ _ S.q0 (HR.o.cP S.b)) ?_
        go_ret3;exact⟨_,ae,⟨m,⟨S.o1,λx f=>⟨(S.x.2 x f).1,a9 x f⟩⟩,ae⟩,S.b⟩
def abu(n:Nat)(f:n<=1000000000)(w:cS):CP_ 239 #[bU cq n,bU cq 128] w λe w'=>e=cj (bU cq ((n+127)/128:Nat))/\w=w':=by
 have a:IntKind.i64.wrap ((n:Int)+128)=(n:Int)+128:=kS _ cN;have b:IntKind.i64.wrap ((n:Int)+128-1)=(n:Int)+127:=by rw[kS _ cN];omega
 have c:IntKind.i64.wrap (((n:Int)+127)/128)=(((n+127)/128:Nat):Int):=by rw[kS _ cN];omega
 have d:(((n:Int)+127)/128)=(((n+127)/128:Nat):Int):=cN;go_enter func239,ntmps239;go_wp2;go_ret;exact aE
def agM(n:Nat)(f:n<=1000000000)(w:cS):CP_ 239 #[bU cq n,bU cq 8] w λe w'=>e=cj (bU cq ((n+7)/8:Nat))/\w=w':=by
 have a:IntKind.i64.wrap ((n:Int)+8)=(n:Int)+8:=kS _ cN;have b:IntKind.i64.wrap ((n:Int)+8-1)=(n:Int)+7:=by rw[kS _ cN];omega
 have c:IntKind.i64.wrap (((n:Int)+7)/8)=(((n+7)/8:Nat):Int):=by rw[kS _ cN];omega
 have d:(((n:Int)+7)/8)=(((n+7)/8:Nat):Int):=cN;go_enter func239,ntmps239;go_wp2;go_ret;exact aE
def jW:Nat->Nat->cV
 |0,s=> [s]
 |f+1,s=>if 1<s then s::jW f ((s+7)/8) else [s]
def kM(n:Int):cV:=if n<1∨65535<n then [] else jW 10 ((n.m+127)/128)
def jS(n:Int):Nat:=(kM n).sum
def XX:xi prog 81 3 1 8:=⟨qt,_,uT,ae,cN⟩
def qK(l:cV):List c7:=l.map λ(n:Nat)=>Value.int cq (n:Int)
def ajU(w:cS)(base:Nat)(v:c7)(l:cV):Prop:=w.ownsRow base 3 1 v l.n (qK l)
def MH(n:Int)(w:cS):CP_ 192 #[bU cq n] w λe w'=>∃r,e=cj r/\ajU w' w.h.s r (kM n)/\dR w w':=by
 have S:=qR w;obtain⟨T,j⟩:=dI (kM n);rw[j];by_cases t:n<1∨65535<n
 . (obtain rfl:[]=T:=by rw[<-j];unfold kM;rw[df t]);clear j;go_enter func192,ntmps192;go_wp2;all_goals(go_ret;exact aJ)
 have J:¬n<1:=cN;have K:¬65535<n:=cN;obtain⟨k,rfl⟩:∃k:Nat,n=k:=⟨n.m,cN⟩;obtain⟨s0,i⟩:=dI ((k+127)/128);have v:s0<=512:=cN;have l:jW 10 s0=T:=by rw[<-j];unfold kM;rw[cZ t,<-i];rfl
 have y:=cz (abu k cN);rw[i] at y;have q:=cz l;clear j i l t;go_enter func192,ntmps192;go_upto_region 5 with(first|refine mY (y.o _) ?_|(refine mH S cq (dN [s0]) qt uT cN cN ae ae ae λW S=>?_;replace S:=S.Ug ae));have S:=cz S;go_loopw [3,4] (λx I wr=>∃(f s:Nat)(b:cV)(a:Option Addr)(c:Nat),s<=8^f/\s<=512/\b.n+f=10/\x=bU cq s/\I=bX a (b.n+1) c/\Hid (b++jW f s=T/\∃L,St w cw [] L [⟨3,1,bX a (b.n+1) c,b.n+1,qK (b++[s])⟩] (λ_ _=>True) wr)) (λx _ _=>(intOf x).m);exact⟨10,s0,[],_,1,cN,v,ae,ae,ae,cz ⟨q.o,_,S.o⟩⟩;clear S;obtain⟨f,s,b,a,c,A,H,G,rfl,rfl,hS⟩:=hrel;obtain⟨d,L,S⟩:=hS.o;clear hS;by_cases B:1<s
 . (obtain⟨f,rfl⟩:∃g,f=g+1:=by rcases f with _|f;rw[Nat.pow_zero] at A;omega;exact⟨f,ae⟩);(have u:(1:Int)<(s:Int):=cN;unfold jW at d;rw[df B] at d;obtain⟨o,m⟩:=dI ((s+7)/8);have z:=cz (agM s cN);rw[m] at d z;have p:=cz d;have h:o<=8^f:=by rw[Nat.pow_succ] at A;omega);have F:o<s:=cN;clear d m;go_wp2_with (first|refine mY (z.o _) ?_|refine mH S cq (dN [o]) qt uT cN cN rfl rfl rfl λW S=>?_|refine tA S 0 rfl 0 rfl rfl rfl rfl XX (Hn _ _) CK xZ λD C W S=>?_);go_roundw;exact⟨f,o,b++[s],s_ D 0,C,h,cN,by simp;omega,ae,by simp,cz ⟨by rw[wP];exact p.o,L,by have S:=S.pop;unfold qK at S|-;rw[nL,ji];exact S⟩⟩;exact pR
 . (have u:¬(1:Int)<(s:Int):=cN;have h:jW f s=[s]:=by cases f with|zero=>rfl|succ f=>unfold jW;rw[cZ B]);rw[h] at d;subst d;clear h;go_wp2;go_ret;exact⟨_,ae,by have E:=S.o0;unfold ajU;rw[ji];exact E,S.b⟩
theorem abv(f s:Nat):(jW f s).n<=f+1:=by induction f generalizing s with|zero=>simp[jW]|succ f ih=>grind[jW]
theorem zr(n:Int):(kM n).n<=11:=by grind[kM,abv]
theorem Bk(n:Int):∀x∈kM n,x<=512:=by unfold kM;grind[jW]
theorem ael{m:Nat}(h:∀x∈l,x<=m):l.sum<=l.n*m:=by induction l<;>grind[succ_mul,mem_cons_self]
def Hu(n:Int)(w:cS):tf 256 #[bU cq n] w (bU cq (jS n:Nat)):=by
 have S:=qR w;obtain⟨l,d⟩:=dI (kM n);have t:l.n<=11:=by rw[<-d];exact zr n
 have f:∀x∈l,x<=512:=by rw[<-d];exact Bk n
 have z:Hid (jS n=l.sum):=cz (by unfold jS;rw[d]);have o:=cz (MH n);rw[d] at o;have b:=cz f;clear d f;go_enter func256,ntmps256;go_upto_region 3 with(refine ah (o.o _) λr W⟨ho,h⟩=>?_;obtain⟨D,E,rfl⟩:=dx ho;replace S:=S.iv h ho ae ae;clear h);have S:=cz S;go_loopw [3,9] (λF m wr=>∃k:Nat,k<=l.n/\m=bU cq k/\F=bU cq ((l.take k).sum:Nat)/\Hid (St w cw [] [] [⟨3,1,bX D l.n E,l.n,qK l⟩] (λ_ _=>True) wr)) (λ_ m _=>l.n-(intOf m).m);exact⟨0,cN,ae,ae,S⟩;clear S;obtain⟨k,G,rfl,rfl,hS⟩:=hrel;have S:=hS.o;clear hS;by_cases a:k<l.n
 . (obtain⟨g,c,s⟩:=DI S.o0 (by show 0<l.n;omega);simp only[ly] at s;obtain⟨rfl,-,rfl⟩:=s;obtain⟨x,i⟩:=dI (l[k]);have A:(l.take k).n<=11:=by rw[lP];omega);(have h:(l.take k).sum<=5632:=iE (ael λy C=>b.o y (lQ C)) cN;have B:x<=512:=b.o x (i▸mP a);have j:(l.take (k+1)).sum=(l.take k).sum+x:=by rw[yv a,sum_append,i];simp);(have u:Hid ((qK l)[k]?=cu (.int cq x)):=cz (by unfold qK;rw[rO,jE a,i];rfl);obtain⟨q,p⟩:=sO ((l.take k).sum);rw[p.o] at h j;have v:=cz j;have H:IntKind.i64.wrap ((q:Int)+(x:Int))=((q+x:Nat):Int):=by rw[kS _ cN];omega);rw[p.o];clear i j;go_wp2_with (refine jo 12 3 11 (zp S.o0 u.o) ?_);go_roundw;exact⟨k+1,cN,by go_num,by rw[v.o];first|rfl,cz S⟩;exact pR
 . obtain rfl:k=l.n:=cN;rw[qq];go_wp2;go_ret;exact⟨by rw[z.o];rfl,S.b⟩
def fX(t:Int):Nat:=if t<64∨1024<t then 0 else 2+5*((t.m+1)/2)
theorem DW(t:Int):fX t<=2567:=by grind[fX]
def lH(t:Int)(w:cS):CP_ 202 #[bU cq t] w λe w'=>e=cj (bU cq (fX t:Nat))/\w=w':=by
 by_cases b:t<64∨1024<t
 . have a:Hid (fX t=0):=cz (by unfold fX;rw[df b]);go_enter func202,ntmps202;go_wp2;all_goals(go_ret;exact ane)
 . (obtain⟨n,rfl⟩:∃n:Nat,t=n:=⟨t.m,cN⟩;have a:Hid (fX (n:Int)=2+5*((n+1)/2)):=cz (by unfold fX;rw[cZ b];rfl);have c:¬(n:Int)<64:=cN;have d:¬(1024:Int)<(n:Int):=cN;have f:IntKind.i64.wrap ((n:Int)+1)=(n:Int)+1:=kS _ cN;have g:IntKind.i64.wrap (((n:Int)+1)/2)=((n:Int)+1)/2:=kS _ cN;have h:IntKind.i64.wrap (5*(((n:Int)+1)/2))=5*(((n:Int)+1)/2):=kS _ cN;have i:IntKind.i64.wrap (2+5*(((n:Int)+1)/2))=((2+5*((n+1)/2):Nat):Int):=by rw[kS _ cN];omega);go_enter func202,ntmps202;go_wp2;go_ret;exact ane
theorem Hv(n:Int):jS n<=5632:=by unfold jS;have a:=ael (Bk n);grind[zr]
def nF(n:Nat)(eZ:Int):Nat:=1+jS n+jS (fX eZ:Nat)
def US(a:Option Addr)(n c:Nat)(eZ:Int)(w:cS):tf 222 #[bX a n c,bU cq eZ] w (bU cq (nF n eZ:Nat)):=by
 have S:=qR w;have d:=cz (Hu (n:Int));have e:=cz (lH eZ);have b:=cz (Hu ((fX eZ:Nat):Int));have hc:Hid (nF n eZ=1+jS n+jS (fX eZ:Nat)):=cz ae;have m:=Hv (n:Int);have f:=Hv ((fX eZ:Nat):Int);obtain⟨x,i⟩:=dI (jS (n:Int));obtain⟨s,g⟩:=dI (fX eZ);rw[g] at e b hc f;obtain⟨y,j⟩:=dI (jS (s:Int));rw[i] at d hc m;rw[j] at b hc f;have o:IntKind.i64.wrap (1+(x:Int))=((1+x:Nat):Int):=by rw[kS _ cN];omega
 have l:IntKind.i64.wrap (((1+x:Nat):Int)+(y:Int))=((1+x+y:Nat):Int):=by rw[kS _ cN];omega
 obtain⟨z,k⟩:=dI (1+x);rw[k] at o l hc;obtain⟨u,h⟩:=dI (z+y);rw[h] at l hc;clear i g j k h;go_enter func222,ntmps222;go_wp2_with (first|(go_at_call_has 256 (Value.int cq n);refine je S (d.o _) λW S=>?_)|(go_at_call 202;refine mY (e.o _) ?_)|(go_at_call_has 256 (Value.int cq s);refine je S (b.o _) λW S=>?_));go_ret;exact⟨by rw[hc.o];rfl,S.b⟩
def CX(c:Int):Int:=if c=42 then c else 91
def Jt(c:Int)(w:cS):CP_ 148 #[bU cq c] w λe w'=>e=cj (bU cq (CX c))/\w=w':=by
 by_cases h:c=42
 . subst h;go_enter func148,ntmps148;go_wp2;go_ret;exact aE
 . (have a:Hid (CX c=91):=cz (by unfold CX;rw[cZ h]);have b:(c==42)=cy:=by rw[lR];exact h);clear h;go_enter func148,ntmps148;go_wp2;go_ret;exact ane
def iU(b:ee):Option cV:=
 match jD b.next b.cU with
 |none=>cw
 |some t=>if 65535<t.n then cw else cu t
structure fG(b:ee):Prop where
 next:b.next<18446744073709551616
 fit:zn b
 parts:∀s∈b.cU,tU s
def Kh(b:dW)(A:gE)(l:A=cL 2 (dO b))(h:fG b.t)(w:cS)(R:iT w b):
 CP_ 221 #[bV A] w λe w'=>∃r,e=cj (cg #[r,bU cq (gi 151 (iU b.t))])/\mN w' w.h.s r ((iU b.t).getD [])/\dR w w':=by
 have u:=cz l;have m:=cz R;have f:=cz λW(a:dR w W)=>DU b.next h.next b.l b.sv h.fit.len (λs n=>(h.fit.2 s n).1) h.parts W (m.o.cP a);have S:=qR w;obtain⟨T,i⟩:=dI (iU b.t);rw[i];obtain⟨j,d⟩:=dI (jD b.next (eM b.l));rw[d] at f;have g:(j.bind λt=>if 65535<t.n then cw else cu t)=T:=by rw[<-i,<-d];unfold iU;rw[show b.t.next=b.next from ae,show b.t.cU=eM b.l from ae];cases jD b.next (eM b.l)<;>rfl
 have c:=cz g;clear l h i d g;go_enter func221,ntmps221;cases j with
 |none=>obtain rfl:cw=T:=c.o;go_wp2_with (first|(go_at_call 197;refine ah (f.o _ S.b) λr W⟨ho,a⟩=>?_;replace S:=S.cP a;clear a)|refine fL ?_|refine fg λW S=>?_);go_ret2;exact aJ
 |some t=>
  simp only[lx] at f;by_cases k:65535<t.n
  . (obtain rfl:cw=T:=by rw[<-c.o];simp only[xw];rw[df k]);have o:(65535:Int)<(t.n:Int):=cN;go_wp2_with (first|(go_at_call 197;refine ah (f.o _ S.b) λr W⟨ho,a⟩=>?_;obtain⟨p,q,rfl⟩:=dx ho;replace S:=S.cP a;clear a)|refine fL ?_|refine fg λW S=>?_);go_ret2;exact aJ
  . (obtain rfl:cu t=T:=by rw[<-c.o];simp only[xw];rw[cZ k]);have o:¬(65535:Int)<(t.n:Int):=cN;go_wp2_with (first|(go_at_call 197;refine ah (f.o _ S.b) λr W⟨ho,a⟩=>?_;obtain⟨p,q,rfl⟩:=dx ho;replace S:=S.iv a ho ae ae;clear a)|refine fL ?_|refine fg λW S=>?_);go_ret2;exact bu
def nq(b:ee)(eZ:Int):Nat:=
 match iU b with
 |none=>0
 |some t=>if fX eZ=0 then 0 else nF t.n eZ
def RY(b:dW)(A:gE)(i:A=cL 2 (dO b))(m:fG b.t)(eZ:Int)(w:cS)(R:iT w b):
 tf 168 #[bV A,bU cq eZ] w (bU cq (nq b.t eZ:Nat)):=by
 have p:=cz i;have o:=cz R;have g:=cz λW(c:dR w W)=>Kh b A i m W (o.o.cP c);have l:=cz (lH eZ);have S:=qR w;obtain⟨T,j⟩:=dI (nq b.t eZ);rw[j];obtain⟨n,d⟩:=dI (iU b.t);rw[d] at g;obtain⟨s,k⟩:=dI (fX eZ);rw[k] at l;have f:(n.elim 0 λt=>if s=0 then 0 else nF t.n eZ)=T:=by rw[<-j,<-d,<-k];unfold nq;cases iU b.t<;>rfl
 have a:=cz f;clear i m j d f k;go_enter func168,ntmps168;cases n with
 |none=>obtain rfl:0=T:=a.o;go_wp2_with (first|(refine ah (g.o _ S.b) λr W⟨ho,c⟩=>?_;replace S:=S.cP c;clear c)|refine fL ?_|refine fg λW S=>?_);go_ret;exact az
 |some t=>
  simp only[lx] at g;by_cases h:s=0;obtain rfl:0=T:=by rw[<-a.o,BL,df h]
  subst h;rotate_left;obtain rfl:nF t.n eZ=T:=by rw[<-a.o,BL,cZ h]
  have q:((s:Int)==0)=cy:=by rw[lR];omega
  all_goals
   go_wp2_with first|(refine ah (g.o _ S.b) λr W⟨ho,c⟩=>?_;obtain⟨u,v,rfl⟩:=dx ho;replace S:=S.cP c;clear c)|refine mY (l.o _) ?_|refine je S (US _ _ _ _ _) λW S=>?_|refine fL ?_|refine fg λW S=>?_
   go_ret;exact az
def As(b:dW)(A:gE)(U:A=cL 2 (dO b))(O:zn b.t)(w:cS)(R:iT w b):CP_ 102 #[bV A] w λe w'=>∃B,e=cj (bV B)/\lY w' w.h.s B b.t/\dR w w':=by
 have Z:=O.len;have X:rG b.l:=O.2;obtain⟨E,l,ao,cap⟩:=b;change gu w (bX ao l.n cap) l at R;simp only at Z X;obtain⟨n,r⟩:=dI l.n;have f:=(dP R.1);have R:=cz R;have HA:=cz U;have G:dO ⟨E,l,ao,cap⟩ 1=bX ao n cap:=by rw[<-r];rfl
 have u:=cz G;have N:=cz r;rw[r] at R Z;have S:=qR w;obtain⟨a2,T,Y,H,f⟩:=f;simp only[ly] at Y;obtain⟨rfl,-,rfl⟩:=Y;rw[r] at H f;have f:=cz f;clear U G r O;go_enter func102,ntmps102;go_upto_region 3 with(first|refine yZ S rfl HA.o rfl λW1 S=>?_|refine EC S 1 ae 1 (v:=bX ao n cap) u.o ?_|(refine ahN S (n:=n) Jn ae ae cN xZ ae ae (Zr n) λg W S=>?_;replace S:=S.EY (X':=oL []) (λ_ _ _ x t=>by cases t) (jn []).mh)|refine fg λW S=>?_);have S:=cz S;go_loopw [12] (λi wr=>∃(k:Nat)(m:List dL),k<=n/\i=bU cq k/\Hid (m.n=n/\eM (m.take k)=eM (l.take k)/\(∀x∈m.take k,rH w.h.s x)/\St w cw [] [⟨W1.h.s,99,2,dO xm⟩,⟨w.h.s,99,2,dO ⟨E,l,ao,cap⟩⟩] [⟨109,11,bX (s_ g 0) n n,n,jh m⟩] (oL (m.take k)) wr)) (λi _=>n-(intOf i).m);exact anv;clear S;obtain⟨k,m,hk,rfl,hS⟩:=hrel;obtain⟨d,a,c,S⟩:=hS.o;clear hS;by_cases I:k<n
 . (obtain⟨b,o,rfl⟩:=f.o cN;have j:k<l.n:=by rw[N.o];exact I);obtain⟨x,t⟩:=dI (l[k]);obtain⟨D,q⟩:=fP (cL 11 (iw x));have J:=cz (nD l j (A:=D) (by rw[t];exact q));have K:=cz q;have M:=mP j;rw[t] at M;have C9:=cz λW(s:dR w W)=>qy x D K.o (X.at M).1 W ((R.o.cP s).2 x M);have HX:=cz t;have C:=cz (And.intro d (And.intro a c));have p:k<m.n:=cN;have R1:Hid (c8 w 109 11 (bX (s_ b o) n cap) n (jh l)):=cz (by have:=R.o.1;rwa [N.o] at this);clear q M t d a c;go_wp2_with (first|(first|refine EC S 1 ae 1 (v:=bX (s_ b o) n cap) u.o ?_|refine AD (R1.o.cP S.b) I (vu K) J.o ?_)|(refine(C9.o _ S.b).mono ?_;rintro e W ⟨B,y,rfl,V,L,s⟩;have HB:=cz V;have HF:=cz (show rH w.h.s y from λr b s=>iE S.fr.size ((sH.of L.2).2 r b s));replace S:=S.Bd s L.2;have HY:=cz L.1;clear s V L)|refine aef S 0 rfl rfl k (by show k*11+11<=n*11;omega) rfl rfl HB.o uV (mI _) λW S=>?_);go_roundw;obtain⟨d,a,c⟩:=C.o;refine⟨k+1,m.set k y,cN,by go_num,cz ⟨by rw[xM];exact d,?_,?_,?_⟩⟩;rw[rf m p,Fm l j,<-a,HX.o,<-HY.o];unfold eM;rw[nL];rfl;rw[rf m p];intro z Q;rcases gH.1 Q with h|h;exact c z h;rw[fM.1 h];exact HF.o;rw[rf m p,<-UF p y];refine S.EY (λB w h z Q=>?_) (jn _).mh;rcases gH.1 Q with h2|h2;exact h.1 z h2;rw[fM.1 h2];exact h.2;exact pR
 . (obtain rfl:k=n:=cN;rw[nU cN] at a c S;rw[nU (by rw[N.o];exact eN _)] at a;have C:=cz (And.intro d (And.intro a c));obtain⟨D,q⟩:∃D:gE,D=#[bU ct E,bX (s_ g 0) k k]:=⟨_,ae⟩;have F:D=cL 2 (dO ⟨E,m,s_ g 0,k⟩):=by rw[q,<-d];rfl);have K:=cz q;have a1:=cz F;clear q F d a c;go_wp2_with first|refine lE (cells:=D) ae (by rw[K.o];exact RN _ _ _ _) ?_|(refine mA ?_;exact⟨_,ae,⟨⟨E,m,s_ g 0,k⟩,ae,by unfold dW.t;rw[C.o.2.1],My C.o.1 S.o0 S.x C.o.2.2⟩,S.b⟩)|refine fL ?_|refine fg λW S=>?_
end
section
theorem bl0(S:St w0 d l L O X w)(m:xi P t e z by')(f:gV e=cy)(i:lS e=cy)(h:∀g W,St w0 d l L (⟨e,z,bX (cu ⟨g,0,cw⟩) 0 0,0,[]⟩::O) X W->wpList P ops Q rest (a.put (cu dst) (bX (cu ⟨g,0,cw⟩) 0 0)) W):
 wpList P ops Q (⟨cu dst,.buildSlice t 0 #[],t2,p,af,cw⟩::rest) a w:=by
 obtain⟨n,zv,k,u,s⟩:=m;obtain⟨v,c,o,q,r⟩:=oG k;have b:(Instr.buildSlice t 0 #[]).run P w=.ok (bX (s_ w.h.s 0) 0 0) (w.alloc (.cells #[] e)):=by simp[Instr.buildSlice,yO n,sizeOf,typeInfo,c,Instr.fill,newRow];grind
 refine mC ae λK j=>?_;unfold Oper.wp execOp;simp only[lh,map_toArray,map_nil,b,nW];exact j _ _ (h _ _ (S.made (cap:=0) eQ (gw _) f i))
end
section
def ak7{x:Nat}{c:Nat}(f:P.underlying t=cu (.slice e))(g:a.eval (.tmp x)=bX ao n c)(h:wpList P ops Q rest (a.put (cu dst) (bZ ao.isNone)) w):wpList P ops Q (⟨cu dst,.binOp .eql t (.tmp x) (.const (bX cw 0 0)) u,t2,p,af,cw⟩::rest) a w:=by refine mC ae λK b=>?_;unfold Oper.wp execOp;have hc:a.eval (.const (bX cw 0 0))=bX cw 0 0:=rfl;have d:eqGuard .eql t (.tmp x) (.const (bX cw 0 0)) (bX ao n c) (bX cw 0 0)=pure ():=rfl;simp only[lh,g,hc,d,run_eql_slice_nil w t e ao n c 0 0 f,rR,nW];exact b _ _ h
end
section
attribute[local irreducible]wpList Code.wp Calls Oper.wp wpAnyH
theorem OZ(l:List cQ)(v:c7)(f:l.n<=1000000)(w:cS)(R:lk w v l):CP_ 120 #[v] w λe w'=>∃r,e=cj r/\il w' w.h.s r l/\dR w w':=by
 obtain⟨ao,cap,rfl,a,b⟩:=dP R;have R:=cz R;have S:=qR w;rcases ao with _|u;have d:l.n=0:=by grind
 obtain rfl:=yr d;clear b d a;rotate_left;clear b a
 all_goals
  go_enter func120,ntmps120
  go_wp2_with first|refine ak7 (e:=106) underlying107 ae ?_|refine bl0 S gX rfl rfl λg W S=>?_|(refine apQ S 0 ae ae ae (R.o.cP S.b) gX (oO _) CK xZ λao c W S=>?_;rw[show(0+l.n)=l.n from oQ _] at S|-;rw[show([]++iS l)=iS l from ae] at S)
  go_ret
  first|exact aJ|exact⟨_,rfl,S.o0,S.b⟩
end
structure iV where
 P:Nat
 b:dW
 dK:List cQ
 ho:Option Addr
 hc:Nat
 ub:rC
def iV.hv(g:iV):c7:=bX g.ho g.dK.n g.hc
def wm(g:iV):Nat->c7:=λi=>if i=0 then bW (cu ⟨g.P,0,cw⟩) else if i<3 then dO g.b (i-1) else if i=3 then g.hv else kV g.ub (i-4)
theorem aem(g:iV):∀i,(wm g i).oneCell'=cx:=by intro i;unfold wm;split;rfl;split;exact fT _ _;split;rfl;grind[ug]
instance in0c723(g:iV):OF (wm g):=⟨aem g⟩
structure dY(w:cS)(G:Nat)(g:iV)(D M:Nat)(s:Pl):Prop where
 row:cM w G 145 11 (wm g)
 lf:fc w g.P D M s
 wV:iT w g.b
 dK:lk w g.hv g.dK
def dY.c0{g:iV}{s:Pl}(h:dY w G g D M s):w.cell? ⟨G,0,cw⟩=cu (.pointer (cu ⟨g.P,0,cw⟩)):=cM.cell h.row (i:=0) cN
def dY.c1{g:iV}{s:Pl}(h:dY w G g D M s):w.cell? ⟨G,1,cw⟩=cu (.int ct g.b.next):=cM.cell h.row (i:=1) cN
def dY.c3{g:iV}{s:Pl}(h:dY w G g D M s):w.cell? ⟨G,3,cw⟩=cu g.hv:=cM.cell h.row (i:=3) cN
def dY.c4{g:iV}{s:Pl}(h:dY w G g D M s):w.cell? ⟨G,4,cw⟩=cu (.int ct g.ub.lT):=cM.cell h.row (i:=4) cN
section
variable {x:Nat}
def ak8(R:cM w b e n f){o m:Nat}(s:a.eval (.tmp x)=bW (cu ⟨b,o,cw⟩))(g:Nat->c7)(l:o+m<=n)(k:∀i,i<m->f (o+i)=g i)(d:A=cL m g)(q:kg P ty m)(h:wpList P ops Q rest (a.put (cu dst) (bV A)) w):wpList P ops Q (⟨cu dst,.load ty (.tmp x),t2,p,af,cw⟩::rest) a w:=by obtain⟨⟨c,r,j⟩,t⟩:=q;have:=wpList_load_mid (op:=⟨cu dst,.load ty (.tmp x),t2,p,af,cw⟩) (ops:=ops) (rest:=rest) (Q:=Q) ae ty (.tmp x) ae b o s A.t c (xX R l k d) r j aG;rw[vx] at this;exact this h
end
section
attribute[local irreducible]wpList Code.wp Calls Oper.wp wpAnyH
def qz(G D M:Nat)(g:iV)(s:Pl)(w:cS)(h:dY w G g D M s):CP_ 24 #[bW (cu ⟨G,0,cw⟩)] w λe w'=>e=cj (bW (cu ⟨g.P,0,cw⟩))/\w=w':=by have c0:=h.c0;clear h;go_enter func24,ntmps24;go_wp2;go_ret;exact aE
def UT(G D M:Nat)(g:iV)(s:Pl)(w:cS)(h:dY w G g D M s):CP_ 167 #[bW (cu ⟨G,0,cw⟩)] w λe w'=>e=cj (bU cq g.dK.n)/\w=w':=by have c0:=h.c3;unfold iV.hv at c0;clear h;go_enter func167,ntmps167;go_wp2;go_ret;exact aE
def lU(G D M:Nat)(g:iV)(s:Pl)(b:zn g.b.t)(w:cS)(h:dY w G g D M s):CP_ 43 #[bW (cu ⟨G,0,cw⟩)] w λe w'=>∃B,e=cj (bV B)/\lY w' w.h.s B g.b.t/\dR w w':=by obtain⟨A,a⟩:=fP (cL 2 (dO g.b));have f:=cz a;have l:=cz h.row;have d:=cz λW(n:dR w W)=>As g.b A a b W (show gu W g.b.sv g.b.l from(show gu w g.b.sv g.b.l from h.wV).cP n);have S:=qR w;clear h a b;go_enter func43,ntmps43;go_wp2_with first|((with_reducible refine xz 6 99 5 ?_);refine ak8 (l.o.cP S.b) (o:=1) (m:=2) ae (dO g.b) cN (λi q=>by rcases i with(_|_|i)<;>first|rfl|omega) f.o nT ?_)|(go_at_call 102;refine Be S (d.o _ S.b) λW B c p j k S=>?_)|(refine mA ?_;exact⟨_,ae,⟨c,ae,j.o,S.jJ k.o⟩,S.b⟩)|refine fg λW S=>?_
def yKn{x:Nat}(e:∀w,SS w->cM w b t n f){o m:Nat}(u:a.eval (.tmp x)=bW (cu ⟨b,o,cw⟩))(g:Nat->c7)(l:o+m<=n)(k:∀i,i<m->f (o+i)=g i)(d:A=cL m g)(q:kg P ty m)(s:Region.wanted ⟨cu dst,.load ty (.tmp x),t2,p,af,gd⟩ (yielded ops a.tmps)=cx:=by kernel_rfl):YieldsIf P ops SS ⟨cu dst,.load ty (.tmp x),t2,p,af,gd⟩ (bV A) a:=by obtain⟨⟨c,r,j⟩,v⟩:=q;have h:=yieldsIf_load_mid (P:=P) (S:=SS) (op:=⟨cu dst,.load ty (.tmp x),t2,p,af,gd⟩) (ops:=ops) s ty (.tmp x) ae b o u A.t c (λw h=>xX (e w h) l k d) r j aG;omega
def MI:lD prog 68:=⟨⟨_,underlying68,ae⟩,dC⟩
instance in570ca :ru 68:=⟨MI⟩
def dY.cP{g:iV}{s:Pl}(h:dY w G g D M s)(b:dR w w'):dY w' G g D M s:=
 ⟨cM.cP h.row b,h.lf.cP b,(show gu w g.b.sv g.b.l from h.wV).cP b,(show c8 w 106 3 g.hv g.dK.n (iS g.dK) from h.dK).cP b⟩
def Ki(G D M:Nat)(g:iV)(s:Pl)(j:fG g.b.t)(w:cS)(h:dY w G g D M s):
 tf 121 #[bW (cu ⟨G,0,cw⟩)] w (bU cq (nq g.b.t s.dv.n:Nat)):=by obtain⟨A,c⟩:=fP (cL 2 (dO g.b));have n:=cz c;have e:=cz h;have k:=cz λW(b:dR w W)=>nO g.P D M s.cR s.base W ((h.cP b).lf.row);have l:=cz λW(b:dR w W)=>Am D s.dv W ((h.cP b).lf.dev);have d:=cz λW(b:dR w W)=>RY g.b A c j (s.dv.n:Nat) W ((h.cP b).wV);have S:=qR w;obtain⟨T,f⟩:=dI (nq g.b.t s.dv.n);rw[f] at d|-;clear h c j f;go_enter func121,ntmps121;go_upto_region 1 with(fail);refine eu S dC λW S=>?_;refine dh 0 _ ?_;refine dh 1 (dE G 0) ?_;refine dh 2 (dE G 1) ?_;refine gZ 3 (bV A) ae (yKn (λw h=>by obtain⟨_,S⟩:=h;exact(e.o.cP S.b).row) (o:=1) (m:=2) ae (dO g.b) cN (λi p=>by rcases i with(_|_|i)<;>first|rfl|omega) n.o nT) ?_;refine dh 4 _ ?_;refine dh 5 (dE G 0) ?_;refine dh 6 (dE G 0) ?_;refine gZ 7 (dE g.P 0) ae (gO (λw h=>by obtain⟨_,S⟩:=h;exact(e.o.cP S.b).c0) ae MI) ?_;refine kI 8 λK a=>?_;go_wp2_with fail;refine mY (k.o _ S.b) ?_;refine gq a ?_;refine kI 9 λK a=>?_;go_wp2_with fail;refine mY (l.o _ S.b) ?_;refine gq a ?_;refine kI 10 λK a=>?_;go_wp2_with fail;refine je S (d.o _ S.b) λW S=>?_;refine gq a ?_;refine dh 11 _ ?_;refine qx ?_;go_wp2;go_ret;exact az
theorem aeo(b:ee)(eZ:Int)(a:∀t,iU b=cu t->t.n<=65535):nq b eZ<=1000000:=by grind[nq,Hv,nF]
theorem Hw{b:ee}{t:cV}(h:iU b=cu t):t.n<=65535:=by grind[iU]
def Bm(jS a dK:Nat):Bool:=decide (0<jS)&&decide (jS<=a)&&decide (2*jS<=a+dK)
def UU(G D M:Nat)(g:iV)(s:Pl)(r:fG g.b.t)(w:cS)(h:dY w G g D M s)(y:g.dK.n<=1000000):
 tf 117 #[bW (cu ⟨G,0,cw⟩)] w (bZ (Bm (nq g.b.t s.dv.n) (fR s.mp) g.dK.n)):=by
 have k:=cz h;have d:=cz λW(b:dR w W)=>Ki G D M g s r W (h.cP b);have i:=cz λW(b:dR w W)=>qw g.P D M s.cR s.base W ((h.cP b).lf.row);have e:=cz λW(b:dR w W)=>count_map M s.mp W ((h.cP b).lf.map);have j:=cz λW(b:dR w W)=>UT G D M g s W (h.cP b);have S:=qR w;have v:=aeo g.b.t s.dv.n (λt h=>Hw h);obtain⟨T,q⟩:=dI (nq g.b.t s.dv.n);rw[q] at d v|-;have x:fR s.mp<=1024:=by unfold fR;have:=TT s.mp 16;omega
 obtain⟨F,o⟩:=dI (fR s.mp);rw[o] at e x|-;obtain⟨H,p⟩:=dI g.dK.n;rw[p] at j y|-;clear h r q o p;by_cases f:0<T;by_cases l:T<=F
 . by_cases n:2*T<=F+H
   . have c:Hid (Bm T F H=cx):=cz (by unfold Bm;simp[f,l,n]);have m:(0:Int)<(T:Int):=cN;have u:(T:Int)<=(F:Int):=cN;have z:(2:Int)*(T:Int)<=(F:Int)+(H:Int):=cN;go_enter func117,ntmps117;go_upto_region 1 with(fail);refine eu S dC λW S=>?_;refine dh 0 _ ?_;refine dh 2 _ ?_;refine dh 3 (dE G 0) ?_;refine dh 4 (dE G 0) ?_;refine gZ 5 (dE g.P 0) ae (gO (λw h=>by obtain⟨_,S⟩:=h;exact(k.o.cP S.b).c0) ae MI) ?_;refine kI 1 λK a=>?_;go_wp2_with fail;refine je S (d.o _ S.b) λW S=>?_;refine gq a ?_;refine kI 6 λK a=>?_;go_wp2_with fail;refine mY (i.o _ S.b) ?_;refine gq a ?_;refine kI 7 λK a=>?_;go_wp2_with fail;refine mY (e.o _ S.b) ?_;refine gq a ?_;refine dh 8 _ ?_;refine dh 9 _ ?_;refine qx ?_
     all_goals(
     go_wp2_with (go_at_call 167;refine mY (j.o _ S.b) ?_);go_ret;exact⟨by rw[c.o];first|rfl,S.b⟩
     )
   . have c:Hid (Bm T F H=cy):=cz (by unfold Bm;simp[f,l,n]);have m:(0:Int)<(T:Int):=cN;have u:(T:Int)<=(F:Int):=cN;have z:¬(2:Int)*(T:Int)<=(F:Int)+(H:Int):=cN;go_enter func117,ntmps117;go_upto_region 1 with(fail);refine eu S dC λW S=>?_;refine dh 0 _ ?_;refine dh 2 _ ?_;refine dh 3 (dE G 0) ?_;refine dh 4 (dE G 0) ?_;refine gZ 5 (dE g.P 0) ae (gO (λw h=>by obtain⟨_,S⟩:=h;exact(k.o.cP S.b).c0) ae MI) ?_;refine kI 1 λK a=>?_;go_wp2_with fail;refine je S (d.o _ S.b) λW S=>?_;refine gq a ?_;refine kI 6 λK a=>?_;go_wp2_with fail;refine mY (i.o _ S.b) ?_;refine gq a ?_;refine kI 7 λK a=>?_;go_wp2_with fail;refine mY (e.o _ S.b) ?_;refine gq a ?_;refine dh 8 _ ?_;refine dh 9 _ ?_;refine qx ?_
     all_goals(
     go_wp2_with (go_at_call 167;refine mY (j.o _ S.b) ?_);go_ret;exact⟨by rw[c.o];first|(show Ending.returned (Value.bool (decide ((2:Int)*(T:Int)<=(F:Int)+(H:Int))))=_;rw[jG cN]),S.b⟩
     )
 have c:Hid (Bm T F H=cy):=cz (by unfold Bm;simp[f,l]);have m:(0:Int)<(T:Int):=cN;have u:¬(T:Int)<=(F:Int):=cN;rotate_left;have c:Hid (Bm T F H=cy):=cz (by unfold Bm;simp[f]);have m:¬(0:Int)<(T:Int):=cN
 all_goals
  go_enter func117,ntmps117
  go_upto_region 1 with(fail)
  refine eu S dC λW S=>?_;refine dh 0 _ ?_;refine dh 2 _ ?_;refine dh 3 (dE G 0) ?_;refine dh 4 (dE G 0) ?_;refine gZ 5 (dE g.P 0) ae (gO (λw h=>by obtain⟨_,S⟩:=h;exact(k.o.cP S.b).c0) ae MI) ?_;refine kI 1 λK a=>?_
  go_wp2_with fail
  refine je S (d.o _ S.b) λW S=>?_;refine gq a ?_;refine kI 6 λK a=>?_
  go_wp2_with fail
  refine mY (i.o _ S.b) ?_;refine gq a ?_;refine kI 7 λK a=>?_
  go_wp2_with fail
  refine mY (e.o _ S.b) ?_;refine gq a ?_;refine dh 8 _ ?_;refine dh 9 _ ?_;refine qx ?_
  all_goals(
  go_wp2;go_ret;exact⟨by rw[c.o];first|rfl,S.b⟩
  )
structure vf(w:cS)(K G:Nat)(g:iV)(D M:Nat)(s:Pl):Prop where
 row:cM w K 101 1 (λ_=>bW (cu ⟨G,0,cw⟩))
 KX:dY w G g D M s
def vf.c0{K:Nat}{g:iV}{s:Pl}(h:vf w K G g D M s):w.cell? ⟨K,0,cw⟩=cu (.pointer (cu ⟨G,0,cw⟩)):=cM.cell h.row (i:=0) cN
def Cp(U G D M:Nat)(g:iV)(s:Pl)(w:cS)(h:vf w U G g D M s):CP_ 46 #[bW (cu ⟨U,0,cw⟩)] w λe w'=>e=cj (bZ s.dv.di)/\w=w':=by have c0:=h.c0;have c:=cz (qz G D M g s w h.KX);have d:=cz (nO g.P D M s.cR s.base w h.KX.lf.row);have a:=cz (K8 D s.dv w h.KX.lf.dev);obtain⟨T,b⟩:=dI s.dv.di;rw[b] at a|-;clear h b;go_enter func46,ntmps46;go_wp2_with (first|(go_at_call 24;refine mY c.o ?_)|(go_at_call 106;refine mY d.o ?_)|(go_at_call 82;refine mY a.o ?_));go_ret;exact aE
def vD(c:Int):Int:=if c=0∨c=42∨c=71 then c else 91
def sJ(c:Int)(w:cS):CP_ 49 #[bU cq c] w λe w'=>e=cj (bU cq (vD c))/\w=w':=by
 by_cases a:c=0;subst a;rotate_left;by_cases b:c=42;subst b;rotate_left;by_cases d:c=71;subst d;rotate_left
 . (have f:Hid (vD c=91):=cz (by unfold vD;rw[cZ cN]);have g:(c==0)=cy:=by rw[lR];exact a);(have h:(c==42)=cy:=by rw[lR];exact b);(have i:(c==71)=cy:=by rw[lR];exact d);clear a b d;go_enter func49,ntmps49;go_wp2;go_ret;exact⟨by rw[f.o];rfl,ae⟩
 all_goals
  go_enter func49,ntmps49;go_wp2;go_ret;exact aE
def abw(q:Nat)(v:c7)(W:cS):Sem.run prog (Instr.field 99 (bV #[bU ct (q:Int),v]) 0) W=.ok (bU ct (q:Int)) W:=by rfl
def Zv:lD prog 69:=⟨⟨_,underlying69,ae⟩,dC⟩
instance in805a8 :sE 118 1:=⟨⟨⟨_,underlying118,rfl⟩,dC⟩⟩
instance in90860 :ru 69:=⟨Zv⟩
def z7(G D M:Nat)(g:iV)(s:Pl)(A:gE)(b:A=cL 1 (λ_=>bW (cu ⟨G,0,cw⟩)))(d:fG g.b.t)(w:cS)(h:dY w G g D M s)(e:g.dK.n<=1000000):
 tf 57 #[bV A] w (bU cq (if Bm (nq g.b.t s.dv.n) (fR s.mp) g.dK.n=cx then 0 else 71)):=by
 have i:=cz b;have a:=cz λW(f:dR w W)=>UU G D M g s d W (h.cP f) e;have S:=qR w;obtain⟨T,c⟩:=dI (Bm (nq g.b.t s.dv.n) (fR s.mp) g.dK.n);rw[c] at a|-;clear b d h e c;cases T
 all_goals(
 go_enter func57,ntmps57;go_wp2_with (first|(go_at_call 117;refine je S (a.o _ S.b) λW S=>?_)|refine fL ?_|refine fg λW S=>?_);go_ret;exact az
 )
theorem At(G D M:Nat)(g:iV)(s:Pl)(A:gE)(j:A=cL 1 (λ_=>bW (cu ⟨G,0,cw⟩)))(k:zn g.b.t)(w:cS)(h:dY w G g D M s):
 tf 53 #[bV A] w (bZ (decide (281474976710651<g.b.next))):=by
 have o:=cz j;have m:=cz λW(d:dR w W)=>lU G D M g s k W (h.cP d);have S:=qR w;obtain⟨T,f⟩:=dI (decide (281474976710651<g.b.next));rw[f];obtain⟨q,i⟩:=sO g.b.next;have a:decide ((281474976710651:Int)<(q:Int))=T:=by rw[<-f,i.o];grind
 have n:=cz a;clear j k h f a;go_enter func53,ntmps53;go_wp2_with (first|(go_at_call 43;refine(m.o _ S.b).mono ?_;rintro e W ⟨B,rfl,⟨c,rfl,hc,ho⟩,d⟩;have b:c.next=q:=(gD ee.next hc).trans i.o;replace S:=S.cP d;clear d hc;rw[show cL 2 (dO c)=#[bU ct c.next,c.sv] from ae,b];clear b;have l:=λW=>abw q c.sv W)|refine fL ?_|refine fg λW S=>?_);go_ret;exact⟨by rw[<-n.o];rfl,S.b⟩
def r8(b:ee)(cT:fF)(i:Int):dw×Int:=
 let r:=nJ b.cU cT
 let s:=Mu b.cU r.1
 if r.2=141 then(oH,141) else if r.2≠0 then(oH,172) else if i<0∨(s.blocks:Int)<=i then(oH,176) else(s,0)
def Hx(b:dW)(A:gE)(D:A=cL 2 (dO b))(t:zn b.t)(cT:fF)(u:cT.s<=140737488355328)(i:Int)(w:cS)(R:iT w b):
 CP_ 47 #[bV A,bY cT,bU cq i] w λe w'=>∃B,e=cj (cg #[bV B,bU cq (r8 b.t cT i).2])/\zm w' w.h.s B (r8 b.t cT i).1/\dR w w':=by
 have E:b.l.n<=1000000:=t.len;have K:=cz D;have g:=cz λW(d:dR w W)=>Hm b.l b.sv cT u E t.2 W (show gu W b.sv b.l from(show gu w b.sv b.l from R).cP d);have S:=qR w;obtain⟨T,r⟩:=dI (r8 b.t cT i);rw[r];obtain⟨n,f⟩:=dI (nJ (eM b.l) cT);rw[f] at g;obtain⟨k,c⟩:=n;simp only at g;obtain⟨s,x⟩:=dI (Mu (eM b.l) k);rw[x] at g;have l:(if c=141 then(oH,141) else if c≠0 then(oH,172) else if i<0∨(s.blocks:Int)<=i then(oH,176) else(s,0))=T:=by rw[<-r,<-x];unfold r8;rw[show b.t.cU=eM b.l from ae,f]
 have p:=cz l;clear D t E R r f x l;by_cases h:c=141;subst h;obtain rfl:(oH,141)=T:=p.o;rotate_left;have L:(c==141)=cy:=by rw[lR];exact h
 by_cases q:c=0
 . (subst q;obtain⟨n,f⟩:=dI s.blocks;have G:=cz f;have m:(if i<0∨(n:Int)<=i then(oH,176) else(s,0))=T:=by rw[<-p.o,cZ (by decide:¬(0:Int)=141),cZ (by decide:¬(0:Int)≠0),f]);(have a:=cz m;clear f m h p;by_cases C:i<0;obtain rfl:(oH,176)=T:=by rw[<-a.o,df (.inl C)]);rotate_left;(have N:decide (i<0)=cy:=jG C;by_cases J:(n:Int)<=i;obtain rfl:(oH,176)=T:=by rw[<-a.o,df (.inr J)]);rotate_left;obtain rfl:(s,0)=T:=by rw[<-a.o,cZ cN]
   all_goals
    go_enter func47,ntmps47
    go_wp2_with first|refine uU S xO pS rfl λI S=>?_|(refine ah (g.o _ S.b) λB W⟨⟨y,j,o,ho⟩,d⟩=>?_;have F:=cz j;have H:=cz o;have z:(y.blocks:Int)=(n:Int):=(by rw[<-G.o,<-o]);replace S:=S.iv d ho ae ae;clear d j o)|(refine mi dC ?_;refine yY S 0 ae 6 (v:=bU cq y.blocks) ae rn ae DG ?_;rw[z])|refine fL ?_|refine fg λW S=>?_|(refine mA ?_;exact⟨_,ae,sI _ _,S.b⟩)|(refine mA ?_;exact⟨_,ae,⟨y,ae,H.o,S.o0⟩,S.b⟩)
 have M:(c !=0)=cx:=fJ.2 q;obtain rfl:(oH,172)=T:=by rw[<-p.o,cZ h,df q]
 clear h q
 all_goals
  go_enter func47,ntmps47
  go_wp2_with first|refine uU S xO pS rfl λI S=>?_|(refine ah (g.o _ S.b) λB W⟨⟨y,j,o,ho⟩,d⟩=>?_;have F:=cz j;replace S:=S.cP d;clear d j o)|(refine mA ?_;exact⟨_,ae,sI _ _,S.b⟩)|refine fL ?_|refine fg λW S=>?_
def qL(b:ee)(cT:fF)(i:Int):dw×Int:=
 (eO cT).elim (oH,141) λp=>if p.2=sG then r8 b cT i else(oH,141)
def DX(G D M:Nat)(g:iV)(s:Pl)(A:gE)(t:A=cL 1 (λ_=>.pointer (some ⟨G,0,none⟩)))(o:zn g.b.t)(cT:fF)(d:cT.size<=140737488355328)(i:Int)(w:cS)(h:dY w G g D M s):
 CP_ 79 #[.agg A,.string cT,.int .i64 i] w λe w'=>∃B,e=.returned (.tuple #[.agg B,.int .i64 (qL g.b.t cT i).2])/\zm w' w.heap.size B (qL g.b.t cT i).1/\dR w w':=by
 have J:=cz t;have j:=cz (tC cT d);have u:=cz λW(m:dR w W)=>lU G D M g s o W (h.cP m);have v:=cz λ(c:dW)(B:gE)(l:B=cL 2 (dO c))(hc:c.t=g.b.t)W(R:iT W c)=>Hx c B l (by rw[hc];exact o) cT d i W R;have S:=qR w;obtain⟨T,a⟩:=dI (qL g.b.t cT i);rw[a];unfold qL at a;obtain⟨ns,f⟩:=dI (eO cT);rw[f] at j a;have k:=cz a;clear t o h a f;rcases ns with _|p;obtain rfl:(oH,141)=T:=k.o;rotate_left;obtain⟨H,sn⟩:=p;simp only[lx] at j;rw[show gi 141 (some (H,sn))=0 from ae] at j;by_cases b:sn=sG;have F:sn.toList.isEmpty=true:=by rw[b,DL];rfl
 obtain rfl:r8 g.b.t cT i=T:=by rw[<-k.o];simp only[BL,df b]
 obtain⟨T,a⟩:=dI (r8 g.b.t cT i);have C:=cz a;rw[a];clear b a k;rotate_left;have F:sn.toList.isEmpty=false:=Ba b;obtain rfl:(oH,141)=T:=by rw[<-k.o];simp only[BL,cZ b]
 clear b
 all_goals
  go_enter func79,ntmps79
  go_wp2_with first|((with_reducible refine G7 6 109 ?_);refine uU S xO pS ae λK S=>?_)|(go_at_call 63;refine je S (j.o _) λW S=>?_)|(go_at_call 43;refine Be S (u.o _ S.b) λW B c x r n S=>?_)|(go_at_call 47;refine ah (v.o c B x.o r.o _ (S.jJ n.o).sl) λI W⟨⟨y,l,q,ho⟩,m⟩=>?_;have z:=cz l;rw[r.o,C.o] at q|-;have E:=cz q;replace S:=S.iv m ho ae ae;clear m l q)|refine fL ?_|refine fg λW S=>?_|(refine mA ?_;exact⟨_,ae,sI _ _,S.b⟩)|(refine mA ?_;exact⟨_,ae,⟨y,ae,E.o,S.o0⟩,S.b⟩)
attribute [local go_sem] Oper.semAt_some
def r9(l:List dL)(id k:Nat):List (Fin l.n):=((finRange l.n).take k).filter λi=>decide ((l.get i).dB=id)
theorem XY(l:List dL)(id:Nat)(a:k<l.n):r9 l id (k+1)=if(l.get ⟨k,a⟩).dB=id then r9 l id k++[⟨k,a⟩] else r9 l id k:=by unfold r9;rw[take_add_one,jE jv,filter_append];grind
theorem abx(l:List dL)(id k:Nat):(r9 l id k).n<=k:=by grind[r9]
theorem aby(l:List dL)(id:Nat):(r9 l id l.n).map (λi=>(l.get i))=l.filter λs=>decide (s.dB=id):=by
 unfold r9;rw[nU eQ];have h:(finRange l.n).map l.get=l:=by apply ext_getElem eQ;grind
 conv=>rhs;rw[<-h]
 rw[filter_map];rfl
theorem abz(l:List dL)(id:Nat)(a:k<=l.n):r9 l id k<+:r9 l id l.n:=by grind[r9]
def Zw{J:β->cS->Prop}{B:Nat}(b:AbidesFrom B J){s:β}(h:J s W)(a:dR W W'):J s W':=
 b s W W' cw h ⟨a.os,a.tape,a.output,a.s,λk c _=>a.block k c⟩ (λr e=>by cases e)
def Ju(h:w'.h[b]?=w.h[b]?):w'.cell? ⟨b,i,cw⟩=w.cell? ⟨b,i,cw⟩:=yD h
def aep(n:Nat)(lp m j:Nat)(v:c7)(l:List dL)(id:Nat)(a2:l.n<=1000000)(J O:List (Fin l.n)->cS->Prop)(W:cS)(hv:gu W v l)(hJ:AbidesFrom W.h.s J)(hY:∀a x Q,J a Q->a.n<l.n->YieldAt Fence.wide (n-1) prog lp #[bU cq ((x:Fin l.n).val:Int)] Q λe W'=>
  (e=cj (bZ cx)/\J (a++[x]) W'/\np ([m,j]++v.ownBlock.t) Q W')∨(e=cj (bZ cy)/\O (a++[x]) W'))(U:W.cell? ⟨m,0,cw⟩=cu v)(T:W.cell? ⟨j,0,cw⟩=cu (.int ct id))(h0:J [] W):
 CallsIn Fence.wide n prog 232 #[.func (.yield lp) #[] #[],bW (cu ⟨m,0,cw⟩),bW (cu ⟨j,0,cw⟩)] W λe W'=>(∃u,e=cj u)/\
  ((∃ys,ys=r9 l id l.n/\J ys W')∨(∃a,a<+:r9 l id l.n/\O a W')):=by
 have HV:=cz hv;obtain⟨ao,cap,rfl,a1,z⟩:=dP hv.1;have z:=cz z;clear hv;have HY:=cz hY;clear hY;have HJ:=cz hJ;clear hJ;refine callsIn_of_wp func232 ae iG ?_ ae;simp only[ntmps232,AG,lr,tX,reduceAdd,reduceSub,AH,vE,vF,vG,pN,uG];gi_wp2
 gi_loopw [7] (λi wr=>∃k:Nat,k<=l.n/\i=bU cq k/\J (r9 l id k) wr/\Hid (np ([m,j]++(Value.slice ao l.n cap).ownBlock.t) W wr)/\wr.cell? ⟨m,0,cw⟩=cu (.slice ao l.n cap)/\wr.cell? ⟨j,0,cw⟩=cu (.int ct id))
  (λi _=>l.n-(intOf i).m)
 exact⟨0,gw _,ae,h0,cz (np.refl _ _),U,T⟩;obtain⟨k,Z,rfl,y,B,d,c⟩:=hrel;by_cases g:k<l.n
 . (obtain⟨b,o,rfl⟩:=z.o cN;have f:=cz (XY l id g);obtain⟨x,hx⟩:=dI (l.get ⟨k,g⟩);rw[hx] at f;have K:l[k]?=cu x:=by rw[jE g,<-hx];rfl);(have t:wr.cell? ⟨b,o+k*11+4,cw⟩=cu (.int ct x.dB):=by rw[Ju (B.o.same b (by simp[Value.ownBlock]))];exact(HV.o.at K).c4);clear hx K;have a3:prog.follows .mixedOrders=cx:=dC;rcases BG (x.dB=id) with he|he
   . have M:=cz (f.o.trans (df he));have Y:(((x.dB:Nat):Int)==((id:Nat):Int))=cx:=by rw[xL];omega
     obtain⟨fn,tmps,q,C,hy,E⟩:=HY.o _ ⟨k,g⟩ _ (Zw HJ.o y (gJ _ _).drew) (QW (abx l id k) g);clear f he;have s:RoundIn Fence.wide (n-1) prog lp fn tmps q C wr.drew λe W'=>∃L:Bool,e=cj (bZ L)/\Hid ((L=cx/\J (r9 l id (k+1)) W'/\np ([m,j]++(Value.slice (s_ b o) l.n cap).ownBlock.t) wr.drew W')∨(L=cy/\O (r9 l id (k+1)) W')):=
      RoundIn.mono E λe W' h=>by
       rw[M.o];rcases h with⟨rfl,R,h2⟩|⟨rfl,R⟩
       . exact⟨cx,ae,cz (.inl ⟨ae,R,h2⟩)⟩
       . exact⟨cy,ae,cz (.inr ⟨ae,R⟩)⟩
     have N:=cz s;clear E s;gi_wp2;gi_region_with (refine⟨En,RoundIn.mono N.o ?_⟩;rintro e W3 ⟨L,rfl,h3⟩)
     all_goals(
     rcases h3.o with⟨rfl,V,r⟩|⟨rfl,D⟩
     . have H:=(Ju (r.same m eQ)).trans d;have F:=(Ju (r.same j eQ)).trans c;have A:=cz (B.o.trans ((np.mk ((gJ 0 wr).drew) λ_ _=>ae).trans r));clear r;gi_wp2;go_roundw;exact⟨k+1,cN,by go_num,V,A,H,F⟩;simp[intOf];omega
     . gi_wp2;refine iH (vO ae _ _ _) ae ?_;exact⟨⟨_,ae⟩,.inr ⟨_,abz l id cN,D⟩⟩
     )
   . (have M:=cz (f.o.trans (cZ he));have Y:(((x.dB:Nat):Int)==((id:Nat):Int))=cy:=by rw[lR];omega);clear f he;gi_wp2
     have S:=St.start wr cw [] xh iG;refine Aq sP S dC dC vw λW S=>?_;refine gZ 0 (bX (s_ b o) l.n cap) ae (gO (λw h=>by obtain⟨_,S⟩:=h;exact(S.b.cell (p:=⟨m,0,cw⟩) (rQ d)).trans d) ae sS) ?_;refine dh 1 _ ?_;refine dh 2 (dE b (o+k*11)) ?_;refine dh 3 (dE b (o+k*11+4)) ?_;refine gZ 4 (bU ct x.dB) ae (gO (λw h=>by obtain⟨_,S⟩:=h;exact(S.b.cell (p:=⟨b,o+k*11+4,cw⟩) (rQ t)).trans t) ae fZ) ?_;refine gZ 5 (bU ct id) ae (gO (λw h=>by obtain⟨_,S⟩:=h;exact(S.b.cell (p:=⟨j,0,cw⟩) (rQ c)).trans c) ae fZ) ?_;refine dh 6 (bZ cy) ?_;refine dh 7 _ ?_;refine pQ 8 ?_;refine pQ 9 ?_;refine pQ 10 ?_;refine pQ 11 ?_;refine dh 12 (bZ cy) ?_;refine qx ?_;have X:=Zw HJ.o y S.b;have I:=(S.b.cell (p:=⟨m,0,cw⟩) (rQ d)).trans d;have G:=(S.b.cell (p:=⟨j,0,cw⟩) (rQ c)).trans c;have A:=cz (B.o.trans (np.mk (Hk S.b) λk Z=>S.b.block k (by
      simp only[Value.ownBlock,Lu,uG,pN,iZ,jK,uH] at Z;rcases Z with rfl|rfl|rfl
      . exact rQ d
      . exact rQ c
      . exact rQ t)))
     gi_wp2;go_roundw;exact⟨k+1,cN,by go_num,by rw[M.o];exact X,A,I,G⟩;simp[intOf];omega
 . obtain rfl:k=l.n:=cN;gi_wp2;refine FY (vO ae _ _ _) ae ?_;exact⟨⟨_,ae⟩,.inl ⟨_,ae,y⟩⟩
def Gv(n b a:Nat)(v:c7)(l:List dL)(id:Nat)(f:l.n<=1000000)(w:cS)(hv:gu w v l)(d:w.cell? ⟨b,0,cw⟩=cu v)(c:w.cell? ⟨a,0,cw⟩=cu (.int ct id)):
 SeqStopsK Fence.wide n prog 232 #[bW (cu ⟨b,0,cw⟩),bW (cu ⟨a,0,cw⟩)] (λx:Fin l.n=>#[Value.int cq (x.val:Int)]) (np ([b,a]++v.ownBlock.t)) (λo=>o=r9 l id l.n) (λg=>g<+:r9 l id l.n) l.n w:=by intro m J h W e j _ k i;exact aep n m b a v l id f J h W (hv.cP e) j k ((e.cell (p:=⟨b,0,cw⟩) (rQ d)).trans d) ((e.cell (p:=⟨a,0,cw⟩) (rQ c)).trans c) i
def DY(a:Option Addr)(b cap id:Nat)(w:cS):
 CP_ 175 #[bX a b cap,bU ct id] w λe w'=>e=cj (.func (.func 232) #[] #[bW (cu ⟨w.h.s,0,cw⟩),bW (cu ⟨w.h.s+1,0,cw⟩)])/\w'=(w.alloc (.cells #[bX a b cap] 97)).alloc (.cells #[bU ct id] 82):=by go_enter func175,ntmps175;go_wp2;go_ret;exact aE
theorem DZ{u:c7}{a:dU}(h:W=(w.alloc (.cells #[u] a)).alloc (.cells #[v] t2)):
 dR w W/\W.cell? ⟨w.h.s,0,cw⟩=cu u/\W.cell? ⟨w.h.s+1,0,cw⟩=cu v/\iA W w.h.s=cu a/\iA W (w.h.s+1)=cu t2/\W.h.s=w.h.s+2:=by
 have d:(w.alloc (.cells #[u] a)).h.s=w.h.s+1:=World.size_alloc ..;have e:cM (w.alloc (.cells #[u] a)) w.h.s a 1 (λ_=>u):=cM.alloc w a 1 (λ_=>u);have b:cM W (w.h.s+1) t2 1 (λ_=>v):=by rw[h,<-d];exact cM.alloc _ t2 1 (λ_=>v)
 have c:cM W w.h.s a 1 (λ_=>u):=by rw[h];exact e.alloc_old _
 exact⟨by rw[h];exact((gJ _ _).alloc (eN _) _).alloc cN _,cM.cell c (i:=0) cN,cM.cell b (i:=0) cN,cM.ty c,cM.ty b,by simp_all⟩
attribute [local go_sem] Oper.semAt_some
def Zx:Gr prog 22 1:=⟨dC,λW=>by rfl⟩
def Zy{J:β->cS->Prop}{B:Nat}(b:AbidesFrom B J){s:β}(h:J s W)(a:dR W W'):J s W':=
 b s W W' cw h ⟨a.os,a.tape,a.output,a.s,λk c _=>a.block k c⟩ (λr e=>by cases e)
def Cq(h:w'.h[b]?=w.h[b]?):w'.cell? ⟨b,i,cw⟩=w.cell? ⟨b,i,cw⟩:=yD h
def fu(m n:Nat):Nat:=(m+n-1)/n
theorem sK{m n k:Nat}(a:0<n):k<fu m n↔k*n<m:=by grind[fu,le_div_iff_mul_le]
def uq(b o z m n k:Nat):c7:=bX (cu ⟨b,o+k*n*z,cw⟩) (min n (m-k*n)) (min n (m-k*n))
def UW(h:Gr P t z)(b o n c l y:Nat)(a:l<y)(d:y<=c)(W:cS):(Instr.sliceAt t (bX (cu ⟨b,o,cw⟩) n c) (cu (.int cq l)) (cu (.int cq y)) (cu (.int cq y))).run P W=.ok (bX (cu ⟨b,o+l*z,cw⟩) (y-l) (y-l)) W:=by rw[zh h,run_slice_lhm W t _ n c h.1 cq cq cq (l:Nat) (y:Nat) (y:Nat) cN cN cN cN,h.2];simp only[Result.andThen,sliced,tZ];rw[cZ cN];simp[Addr.add]
theorem abA(n:Nat)(K h g m cap:Nat)(ao:Option Addr)(b o:Nat)(f:0<m->ao=cu ⟨b,o,cw⟩)(T:m<=cap)(H:m<=1000000)(J D:List (Fin (fu m 128))->cS->Prop)(W:cS)(F:AbidesFrom W.h.s J)(G:∀a x t,J a t->a.n<fu m 128->YieldAt Fence.wide (n-1) prog K #[uq b o 1 m 128 (x:Fin (fu m 128)).val] t λe W'=>
  (e=cj (bZ cx)/\J (a++[x]) W'/\np [h,g] t W')∨(e=cj (bZ cy)/\D (a++[x]) W'))(Q:W.cell? ⟨h,0,cw⟩=cu (.slice ao m cap))(O:W.cell? ⟨g,0,cw⟩=cu (.int cq 128))(H:J [] W):
 CallsIn Fence.wide n prog 292 #[.func (.yield K) #[] #[],bW (cu ⟨h,0,cw⟩),bW (cu ⟨g,0,cw⟩)] W λe W'=>(∃u,e=cj u)/\
  ((∃L,L=finRange (fu m 128)/\J L W')∨(∃a,a<+:finRange (fu m 128)/\D a W')):=by
 have N:=cz G;clear G;have M:=cz F;clear F;refine callsIn_of_wp func292 ae iG ?_ ae;simp only[ntmps292,AG,lr,tX,reduceAdd,reduceSub,AH,vE,vF,vG,pN,uG];gi_wp2
 gi_loopw [4] (λi wr=>∃k:Nat,k<=fu m 128/\i=bU cq ((k*128:Nat):Int)/\J ((finRange (fu m 128)).take k) wr/\wr.cell? ⟨h,0,cw⟩=cu (.slice ao m cap)/\wr.cell? ⟨g,0,cw⟩=cu (.int cq 128))
  (λi _=>(m+128)-(intOf i).m)
 grind;obtain⟨k,R,rfl,d,z,w⟩:=hrel;by_cases c:k<fu m 128
 . have B:k*128<m:=(sK cN).1 c;obtain rfl:=f cN;have l:Hid ((finRange (fu m 128)).take (k+1)=(finRange (fu m 128)).take k++[⟨k,c⟩]):=cz (by
    rw[take_add_one,jE am9];simp)
   (obtain⟨i,A⟩:=dI (k*128);rw[A] at B|-;obtain⟨y,C⟩:=fP (min 128 (m-i));have Y:=λW=>Mr Zx (s_ b o) m cap i cN W;have Z:∀W,(Instr.sliceAt 22 (bX (s_ b o) m cap) (cu (.int cq i)) (cu (.int cq ((i+y:Nat):Int))) (cu (.int cq ((i+y:Nat):Int)))).run prog W=.ok (uq b o 1 m 128 k) W:=λW=>by rw[UW Zx b o m cap i (i+y) cN cN];unfold uq;rw[A,<-C,show i+y-i=y by omega]);clear f R;have I:((m:Int)-(i:Int))=((m-i:Nat):Int):=cN;have V:min (128:Int) ((m-i:Nat):Int)=(y:Int):=cN;have H:((i:Int)+(y:Int))=((i+y:Nat):Int):=cN;have X:prog.follows .mixedOrders=cx:=dC;have v:=Zy M.o d (gJ _ _).drew;obtain⟨fn,tmps,r,E,C,j⟩:=N.o _ ⟨k,c⟩ _ v bj;have s:=cz j;clear j;rw[show uq b o 1 m 128 k=bX (s_ b (o+i)) (min 128 (m-i)) (min 128 (m-i)) from by unfold uq;rw[A];try simp] at C;gi_wp2;gi_region;gi_wp2;refine⟨En,RoundIn.mono s.o ?_⟩;rintro e H (⟨rfl,hJ3,hk3⟩|⟨rfl,hJx3⟩)
   . have q:=(Cq (hk3.same h eQ)).trans z;have p:=(Cq (hk3.same g eQ)).trans w;gi_wp2;go_roundw;exact⟨k+1,cN,by rw[show(k+1)*128=i+128 by omega];go_num,by rw[l.o];exact hJ3,q,p⟩;exact pR
   . gi_wp2;refine iH (vO ae _ _ _) ae ?_;exact⟨⟨_,ae⟩,.inr ⟨_,by rw[<-l.o];exact take_prefix _ _,hJx3⟩⟩
 . (have U:m<=k*128:=by have:=mt (sK (m:=m) (k:=k) (n:=128) cN).2 c;omega);clear f;gi_wp2;refine FY (vO ae _ _ _) ae ?_;exact⟨⟨_,ae⟩,.inl ⟨_,ae,by rw[nU sp_] at d;exact d⟩⟩
def RZ(n c a m cap:Nat)(ao:Option Addr)(b o:Nat)(f:0<m->ao=cu ⟨b,o,cw⟩)(g:m<=cap)(r:m<=1000000)(w:cS)(e:w.cell? ⟨c,0,cw⟩=cu (.slice ao m cap))(d:w.cell? ⟨a,0,cw⟩=cu (.int cq 128)):
 SeqStopsK Fence.wide n prog 292 #[bW (cu ⟨c,0,cw⟩),bW (cu ⟨a,0,cw⟩)] (λx:Fin (fu m 128)=>#[uq b o 1 m 128 x.val]) (np [c,a]) (λt=>t=finRange (fu m 128)) (λh=>h<+:finRange (fu m 128)) (fu m 128) w:=by intro s J j W i l _ q k;exact abA n s c a m cap ao b o f g r J j W l q ((i.cell (p:=⟨c,0,cw⟩) (rQ e)).trans e) ((i.cell (p:=⟨a,0,cw⟩) (rQ d)).trans d) k
def XZ(a:Option Addr)(b cap:Nat)(w:cS):
 CP_ 288 #[bX a b cap,bU cq 128] w λe w'=>e=cj (.func (.func 292) #[] #[bW (cu ⟨w.h.s,0,cw⟩),bW (cu ⟨w.h.s+1,0,cw⟩)])/\w'=(w.alloc (.cells #[bX a b cap] 22)).alloc (.cells #[bU cq 128] 3):=by go_enter func288,ntmps288;go_wp2;go_ret;exact aE
theorem abB(n:Nat)(K h g m cap:Nat)(ao:Option Addr)(b o:Nat)(f:0<m->ao=cu ⟨b,o,cw⟩)(T:m<=cap)(H:m<=1000000)(J D:List (Fin (fu m 8))->cS->Prop)(W:cS)(F:AbidesFrom W.h.s J)(G:∀a x t,J a t->a.n<fu m 8->YieldAt Fence.wide (n-1) prog K #[uq b o 3 m 8 (x:Fin (fu m 8)).val] t λe W'=>
  (e=cj (bZ cx)/\J (a++[x]) W'/\np [h,g] t W')∨(e=cj (bZ cy)/\D (a++[x]) W'))(Q:W.cell? ⟨h,0,cw⟩=cu (.slice ao m cap))(O:W.cell? ⟨g,0,cw⟩=cu (.int cq 8))(H:J [] W):
 CallsIn Fence.wide n prog 293 #[.func (.yield K) #[] #[],bW (cu ⟨h,0,cw⟩),bW (cu ⟨g,0,cw⟩)] W λe W'=>(∃u,e=cj u)/\
  ((∃L,L=finRange (fu m 8)/\J L W')∨(∃a,a<+:finRange (fu m 8)/\D a W')):=by
 have N:=cz G;clear G;have M:=cz F;clear F;refine callsIn_of_wp func293 ae iG ?_ ae;simp only[ntmps293,AG,lr,tX,reduceAdd,reduceSub,AH,vE,vF,vG,pN,uG];gi_wp2
 gi_loopw [4] (λi wr=>∃k:Nat,k<=fu m 8/\i=bU cq ((k*8:Nat):Int)/\J ((finRange (fu m 8)).take k) wr/\wr.cell? ⟨h,0,cw⟩=cu (.slice ao m cap)/\wr.cell? ⟨g,0,cw⟩=cu (.int cq 8))
  (λi _=>(m+8)-(intOf i).m)
 grind;obtain⟨k,R,rfl,d,z,w⟩:=hrel;by_cases c:k<fu m 8
 . have B:k*8<m:=(sK cN).1 c;obtain rfl:=f cN;have l:Hid ((finRange (fu m 8)).take (k+1)=(finRange (fu m 8)).take k++[⟨k,c⟩]):=cz (by
    rw[take_add_one,jE am9];simp)
   (obtain⟨i,A⟩:=dI (k*8);rw[A] at B|-;obtain⟨y,C⟩:=fP (min 8 (m-i));have Y:=λW=>Mr EI (s_ b o) m cap i cN W;have Z:∀W,(Instr.sliceAt 107 (bX (s_ b o) m cap) (cu (.int cq i)) (cu (.int cq ((i+y:Nat):Int))) (cu (.int cq ((i+y:Nat):Int)))).run prog W=.ok (uq b o 3 m 8 k) W:=λW=>by rw[UW EI b o m cap i (i+y) cN cN];unfold uq;rw[A,<-C,show i+y-i=y by omega]);clear f R;have I:((m:Int)-(i:Int))=((m-i:Nat):Int):=cN;have V:min (8:Int) ((m-i:Nat):Int)=(y:Int):=cN;have H:((i:Int)+(y:Int))=((i+y:Nat):Int):=cN;have X:prog.follows .mixedOrders=cx:=dC;have v:=Zy M.o d (gJ _ _).drew;obtain⟨fn,tmps,r,E,C,j⟩:=N.o _ ⟨k,c⟩ _ v bj;have s:=cz j;clear j;rw[show uq b o 3 m 8 k=bX (s_ b (o+i*3)) (min 8 (m-i)) (min 8 (m-i)) from by unfold uq;rw[A];skip] at C;gi_wp2;gi_region;gi_wp2;refine⟨En,RoundIn.mono s.o ?_⟩;rintro e H (⟨rfl,hJ3,hk3⟩|⟨rfl,hJx3⟩)
   . have q:=(Cq (hk3.same h eQ)).trans z;have p:=(Cq (hk3.same g eQ)).trans w;gi_wp2;go_roundw;exact⟨k+1,cN,by rw[show(k+1)*8=i+8 by omega];go_num,by rw[l.o];exact hJ3,q,p⟩;exact pR
   . gi_wp2;refine iH (vO ae _ _ _) ae ?_;exact⟨⟨_,ae⟩,.inr ⟨_,by rw[<-l.o];exact take_prefix _ _,hJx3⟩⟩
 . (have U:m<=k*8:=by have:=mt (sK (m:=m) (k:=k) (n:=8) cN).2 c;omega);clear f;gi_wp2;refine FY (vO ae _ _ _) ae ?_;exact⟨⟨_,ae⟩,.inl ⟨_,ae,by rw[nU sp_] at d;exact d⟩⟩
def R3(n c a m cap:Nat)(ao:Option Addr)(b o:Nat)(f:0<m->ao=cu ⟨b,o,cw⟩)(g:m<=cap)(r:m<=1000000)(w:cS)(e:w.cell? ⟨c,0,cw⟩=cu (.slice ao m cap))(d:w.cell? ⟨a,0,cw⟩=cu (.int cq 8)):
 SeqStopsK Fence.wide n prog 293 #[bW (cu ⟨c,0,cw⟩),bW (cu ⟨a,0,cw⟩)] (λx:Fin (fu m 8)=>#[uq b o 3 m 8 x.val]) (np [c,a]) (λt=>t=finRange (fu m 8)) (λh=>h<+:finRange (fu m 8)) (fu m 8) w:=by intro s J j W i l _ q k;exact abB n s c a m cap ao b o f g r J j W l q ((i.cell (p:=⟨c,0,cw⟩) (rQ e)).trans e) ((i.cell (p:=⟨a,0,cw⟩) (rQ d)).trans d) k
def X0(a:Option Addr)(b cap:Nat)(w:cS):
 CP_ 289 #[bX a b cap,bU cq 8] w λe w'=>e=cj (.func (.func 293) #[] #[bW (cu ⟨w.h.s,0,cw⟩),bW (cu ⟨w.h.s+1,0,cw⟩)])/\w'=(w.alloc (.cells #[bX a b cap] 107)).alloc (.cells #[bU cq 8] 3):=by go_enter func289,ntmps289;go_wp2;go_ret;exact aE
end