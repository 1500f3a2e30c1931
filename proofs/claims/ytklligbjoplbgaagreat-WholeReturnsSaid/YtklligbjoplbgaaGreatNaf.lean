/- Part 6 of the proof of WholeReturns. No conditions. -/
import Derived.Test.YtklligbjoplbgaaGreatNae
import Derived.Laws.RangeAny
import Derived.Laws.RangeString
import Derived.Sort.AtCall
import Derived.Laws.Externs
set_option linter.all false
namespace Go.Proofs.YtklligbjoplbgaaGreat
set_option maxRecDepth 100000
set_option maxHeartbeats 64000000
open Go.RowKit Lib List Nat _root_.Go.Proofs.Tryz Go.Shelf
variable {A args:fJ}{F:fJ->cI}{a:Act}{K:Act->cB->Prop}{af:Array Edge}{ops:Array Oper}{ts:Array dC}{cC s:fh}{R:Ending->cB->Prop}{Q:Exit->Act->cB->Prop}{B bs l:cD}{X Y:cD->cB->Prop}{O:List O4}{rest:List Oper}{L rs:List R4}{xs:List cI}{b base by' c cap dst g i j k n y z:Nat}{f:Nat->cI}{o:O4}{hi lo q r:Operand}{gd:Option (Nat×Bool)}{ao:Option Addr}{d:Option Nat}{P:kS}{p pp:String}{T e t2 ty:dC}{α β:Type}{u v:cI}{W w w' w0:cB}{SS:cB->Prop}
section
variable {x:Nat}
def agy(S:St w0 d l L O X w){t:dC}(i:a.eval (.tmp x)=.agg A)(b:A=ct n f)(g:vT P t e n by')(c:n<=16777216)(ho:fT e=false)(h:∀W,St w0 d l (⟨w.heap.size,e,n,f⟩::L) O X W->K (a.put (some dst) (.slice (some ⟨w.heap.size,0,none⟩) 1 1)) W):Oper.wp P ⟨some dst,.buildSlice t 1 #[(0,.tmp x)],t2,p,af,none⟩ a w K Q:=by have⟨hu,zv,hi,hz,h0⟩:=g;exact CY t e (.tmp x) ae A n by' zv i hu hi h0 c (ha_ b) (h _ (S.alloc e b ho))
theorem agz(S:St w0 d l L O X w)(k:Nat){r:R4}(n:L[k]?=some r)(j:Nat)(e:O[j]?=some o){t:dC}(z:a.eval (.tmp x)=o.v)(B:a.eval (.tmp y)=.slice (some ⟨r.b,0,none⟩) 1 1)(v:r.n=o.z)(A:vT P t o.e o.z by')(C:∀i,(r.f i).oneCell'=true)(s:(o.n+1)*by'<=140737488355328)(q:o.n+1<=maxLen)(h:∀g cap W,St w0 d l L (O.set j ⟨o.e,o.z,.slice (some ⟨g,0,none⟩) (o.n+1) cap,o.n+1,o.xs++(ct r.n r.f).toList⟩) X W->K (a.put (some dst) (.slice (some ⟨g,0,none⟩) (o.n+1) cap)) W):
 Oper.wp P ⟨some dst,.call {callee:=.builtin .append,args:=#[.tmp x,.tmp y],argTypes:=#[t,t]},t2,p,af,none⟩ a w K Q:=by
 have⟨f,zv,hi,hz,h0⟩:=A;refine ED (.tmp x) (.tmp y) t ae w0.heap.size o.e zv o.z by' f hi hz h0 o.v o.n o.xs z (S.s8 e) r.b (ct r.n r.f) r.t (0,0) B (S.oh n) (by rw[cF,v])
  (λu f=>?_) q s S.fr.size λg cap w' b m c _=>h g cap w' ?_
 grind[nu,Array.all_eq_true_iff_forall_mem];exact S.grow e m b ae c
end
theorem cK.afS{o:Nat}{x:List cI}(h:cK w e z (.slice (some ⟨b,o,none⟩) (n+1) (c+1)) (n+1) (x++xs))(f:x.length=z):cK w e z (.slice (if c=0 then some ⟨b,o,none⟩ else some ⟨b,o+z,none⟩) n c) n xs:=by have⟨h1,ao,cap,h2,h3,h4,h5⟩:=h;simp only[kM] at h2;obtain⟨rfl,-,rfl⟩:=h2;refine⟨by grind,_,_,ae,cw,by omega,λd=>?_⟩;have⟨b',o',cs,fl,e1,hh,hc⟩:=h5 cw;cases e1;rw[cM cw];refine⟨b,o+z,cs,fl,ae,hh,λj u a=>?_⟩;simp_all[GS,GO]
theorem wT(p:cy)(l:List cy):gY (p::l)=ahX p++gY l:=by rfl
def gM:List cy->List cy->Option (List cy)
 | [],b=>some b
 |p::a,[]=>some (p::a)
 |p::a,q::b=>
  if kN p q=true then(gM a (q::b)).map (p::·) else
  if kN q p=true then(gM (p::a) b).map (q::·) else none
termination_by a b=>a.length+b.length
def Qb(p q:cy)(A B:fJ)(a:A=ct 3 (c7 p))(b:B=ct 3 (c7 q))(w:cB):rF 178 #[.agg A,.agg B] w (.bool (kN p q)):=by rw[<-cP a,<-cP b];exact N4 p q w
section
attribute[local irreducible]wpList Code.wp Calls Oper.wp wpAnyH
theorem Nb(l m:List cy)(v u:cI)(w:cB)(hl:l.length<=100000000)(hm:m.length<=100000000)(R1:ko w v l)(R2:ko w u m):
 CP_ 134 #[v,u] w λe w'=>∃r,e=.returned (.tuple #[r,.int .i64 (fp 131 (gM l m))])/\gg w' w.heap.size r ((gM l m).getD [])/\dz w w':=by
 obtain⟨ao,cap,rfl,a1,-⟩:=du R1;obtain⟨V,a4,rfl,Z,-⟩:=du R2;have S:=pF w;have a3:IntKind.i64.wrap ((l.length:Int)+(m.length:Int))=((l.length+m.length:Nat):Int):=by rw[j0 _ cw];omega
 have⟨N,hN⟩:=eW (l.length+m.length);have a5:N<=200000000:=cw;rw[<-hN] at a3;have HN:=cq hN;clear hN;go_enter func134,ntmps134;go_upto_region 2 with(refine IX S (n:=N) fU ae (by rw[HN.o,Int.natCast_add];rfl) cw wR ae ae λg W S=>?_);have S:=cq S;have R1:=cq R1;have R2:=cq R2;clear a3;go_loopw [0,1,6] (λx y z wr=>∃(a b M:List cy)(ao V:Option Addr)(s t:Nat),M.length+a.length+b.length=N/\x=.slice ao a.length s/\y=.slice V b.length t/\a.length<=s/\b.length<=t/\Hid (gM l m=(gM a b).map (M++ ·)/\ko w x a/\ko w y b/\St w none [] [] [⟨106,3,z,M.length,gY M⟩] (λ_ _=>True) wr)) (λx y _ _=>(match x with| .slice _ m _=>m|_=>0)+(match y with| .slice _ m _=>m|_=>0));exact⟨l,m,[],ao,V,cap,a4,by rw[HN.o];simp,ae,ae,a1,Z,by simp,R1.o,R2.o,S.o⟩;clear S;obtain⟨a,b,M,ao,V,s,t,f,rfl,rfl,C,G,hS⟩:=hrel;cases a with|nil=>have⟨hmm,ha,hb,S⟩:=hS.o;clear hS;have I:Hid (gM l m=some (M++b)):=cq (by rw[hmm];simp[gM]);have F:=cq ha;have H:=cq hb;simp only[r7] at C f;clear hmm ha hb;go_wp2_with (first|refine EP S 0 rfl (by':=24) (n:=0) (xs:=[]) rfl rfl (F.o.cx S.b) fU dU Br wR λv1 W S=>?_|refine EP S 0 rfl (by':=24) rfl rfl (H.o.cx S.b) fU (nG _) Br wR λv2 W S=>?_);go_ret2;refine⟨_,by rw[I.o];rfl,?_,S.b⟩;rw[I.o];have h:=S.o0;show World.ownsRow _ _ _ _ _ (M++b).length (gY (M++b));rw[ik,im];simpa using h|cons p a=>cases b with|nil=>have⟨hmm,ha,hb,S⟩:=hS.o;clear hS;have I:Hid (gM l m=some (M++(p::a))):=cq (by rw[hmm];simp[gM]);have F:=cq ha;have H:=cq hb;simp only[r7,kr] at C G f F|-;clear hmm ha hb;have a6:M.length+(a.length+1)<=200000000:=cw;go_wp2_with (first|refine EP S 0 rfl (by':=24) rfl rfl (F.o.cx S.b) fU (nG _) (by simp only[kr];omega) ak9 λv1 W S=>?_|refine EP S 0 rfl (by':=24) (n:=0) (xs:=[]) rfl rfl (H.o.cx S.b) fU dU (by simp only[kr];omega) ak9 λv2 W S=>?_);go_ret2;refine⟨_,by rw[I.o];rfl,?_,S.b⟩;rw[I.o];have h:=S.o0;show World.ownsRow _ _ _ _ _ (M++(p::a)).length (gY (M++(p::a)));rw[ik,im];simpa using h|cons q b=>(have⟨hmm,ha,hb,S⟩:=hS.o;clear hS;obtain⟨s,rfl⟩:∃c,s=c+1:=⟨s-1,by simp at C;omega⟩;obtain⟨t,rfl⟩:∃c,t=c+1:=⟨t-1,by simp at G;omega⟩;obtain⟨J,D,rfl⟩:∃b o,ao=s_ b o:=by obtain⟨_,_,e1,_,h⟩:=du ha;grind);(obtain⟨L,E,rfl⟩:∃b o,V=s_ b o:=by obtain⟨_,_,e1,_,h⟩:=du hb;grind);(have X:ko w (.slice (if s=0 then some ⟨J,D,none⟩ else some ⟨J,D+3,none⟩) a.length s) a:=by have h:=ha;unfold ko at h;rw[wT] at h;exact cK.afS h (xS p));(have Y:ko w (.slice (if t=0 then some ⟨L,E,none⟩ else some ⟨L,E+3,none⟩) b.length t) b:=by have h:=hb;unfold ko at h;rw[wT] at h;exact cK.afS h (xS q));(have⟨A,hA⟩:=eW (ct 3 (c7 p));have⟨B,hB⟩:=eW (ct 3 (c7 q));have sA:=cq (jK (p::a) (i:=0) dU hA);have sB:=cq (jK (q::b) (i:=0) dU hB);have F:=cq hA;have H:=cq hB;have C1:=cq (Qb p q A B hA hB);have C2:=cq (Qb q p B A hB hA);have Q:Hid (cK w 106 3 (.slice (s_ J D) (a.length+1) (s+1)) (a.length+1) (gY (p::a))):=cq ha;have T:Hid (cK w 106 3 (.slice (s_ L E) (b.length+1) (t+1)) (b.length+1) (gY (q::b))):=cq hb;have R:=cq X;have U:=cq Y;have a2:gM (p::a) (q::b)=if kN p q=true then(gM a (q::b)).map (p::·) else if kN q p=true then(gM (p::a) b).map (q::·) else none:=by rw[gM]);rw[a2] at hmm;have k:=cq hmm;simp only[kr] at C G f|-;clear ha hb X Y hA hB a2 hmm;have⟨na,hna⟩:=c8 a.length;have⟨nb,hnb⟩:=c8 b.length;rw[hna] at C f Q R|-;rw[hnb] at G f T U|-;go_upto_region 4 with(fail);refine dL S cX λW S=>?_;refine cJ 0 _ ?_;refine cJ 1 (cZ J D) ?_;refine fW 2 (.agg A) ae (ySl (o:=D) (j:=0) (λw h=>by obtain⟨_,S⟩:=h;exact Q.o.cx S.b) (succ_pos _) bF (tL F) sA.o eN) ?_;refine cJ 3 _ ?_;refine cJ 4 (cZ L E) ?_;refine fW 5 (.agg B) ae (ySl (o:=E) (j:=0) (λw h=>by obtain⟨_,S⟩:=h;exact T.o.cx S.b) (succ_pos _) bF (tL H) sB.o eN) ?_;refine jQ 6 λK d=>?_;go_wp2_with fail;refine je S (C1.o _) λW S=>?_;refine fC d ?_;clear d K;refine cJ 7 _ ?_;refine pz ?_;cases h1:kN p q with|true=>rw[h1] at k;have O:Hid (gM l m=(gM a (q::b)).map ((M++[p])++ ·)):=cq (by rw[k.o,cL ae];cases gM a (q::b)<;>simp);go_upto_region 5 with(fail);refine AA S cX λW S=>?_;refine cJ 0 _ ?_;refine cJ 1 _ ?_;refine cJ 2 (cZ J D) ?_;refine fW 3 (.agg A) ae (ySl (o:=D) (j:=0) (λw h=>by obtain⟨_,_,_,S⟩:=h;exact Q.o.cx S.b) (succ_pos _) bF (tL F) sA.o eN) ?_;refine cJ 6 _ ?_;refine fW 7 (.slice (if s=0 then some ⟨J,D,none⟩ else some ⟨J,D+3,none⟩) na s) ae (Or.inl ⟨cX,λw hw=>by have h0:¬((na:Int)+1<1):=cw;go_simp⟩) ?_;refine jQ 4 λK d=>?_;refine agy S ae F.o fU cw ae λW S=>?_;refine fC d ?_;clear d K;refine jQ 5 λK d=>?_;refine agz S 0 ae 0 ae ae ae ae fU (df _) Br wR λg cap W S=>?_;refine fC d ?_;clear d K;refine cJ 8 _ ?_;refine cJ 9 _ ?_;refine pz ?_;go_wp2;go_roundw;exact⟨a,q::b,M++[p],_,_,s,t+1,by simp;omega,by rw[hna],by rw[kr,hnb],cw,by rw[kr];omega,cq ⟨O.o,R.o,(by unfold ko;rw[kr,hnb];exact T.o),by rw[ik,im,oH];exact S.pop⟩⟩;simp|false=>rw[h1,cM Pd] at k;go_upto_region 6 with(fail);refine dL S cX λW S=>?_;refine cJ 0 _ ?_;refine cJ 1 (cZ L E) ?_;refine fW 2 (.agg B) ae (ySl (o:=E) (j:=0) (λw h=>by obtain⟨_,S⟩:=h;exact T.o.cx S.b) (succ_pos _) bF (tL H) sB.o eN) ?_;refine cJ 3 _ ?_;refine cJ 4 (cZ J D) ?_;refine fW 5 (.agg A) ae (ySl (o:=D) (j:=0) (λw h=>by obtain⟨_,S⟩:=h;exact Q.o.cx S.b) (succ_pos _) bF (tL F) sA.o eN) ?_;refine jQ 6 λK d=>?_;go_wp2_with fail;refine je S (C2.o _) λW S=>?_;refine fC d ?_;clear d K;refine cJ 7 _ ?_;refine pz ?_;cases h2:kN q p with|true=>rw[h2] at k;have O:Hid (gM l m=(gM (p::a) b).map ((M++[q])++ ·)):=cq (by rw[k.o,cL ae];cases gM (p::a) b<;>simp);go_upto_region 7 with(fail);refine AA S cX λW S=>?_;refine cJ 0 _ ?_;refine cJ 1 _ ?_;refine cJ 2 (cZ L E) ?_;refine fW 3 (.agg B) ae (ySl (o:=E) (j:=0) (λw h=>by obtain⟨_,_,_,S⟩:=h;exact T.o.cx S.b) (succ_pos _) bF (tL H) sB.o eN) ?_;refine cJ 6 _ ?_;refine fW 7 (.slice (if t=0 then some ⟨L,E,none⟩ else some ⟨L,E+3,none⟩) nb t) ae (Or.inl ⟨cX,λw hw=>by have h0:¬((nb:Int)+1<1):=cw;go_simp⟩) ?_;refine jQ 4 λK d=>?_;refine agy S ae H.o fU cw ae λW S=>?_;refine fC d ?_;clear d K;refine jQ 5 λK d=>?_;refine agz S 0 ae 0 ae ae ae ae fU (df _) Br wR λg cap W S=>?_;refine fC d ?_;clear d K;refine cJ 8 _ ?_;refine cJ 9 _ ?_;refine pz ?_;go_wp2;go_roundw;exact⟨p::a,b,M++[q],_,_,s+1,t,by simp;omega,by rw[kr,hna],by rw[hnb],by rw[kr];omega,cw,cq ⟨O.o,(by unfold ko;rw[kr,hna];exact Q.o),U.o,by rw[ik,im,oH];exact S.pop⟩⟩;simp|false=>rw[h2,cM Pd] at k;have I:Hid (gM l m=none):=cq (by rw[k.o];rfl);go_wp2;go_ret2;exact⟨_,by rw[I.o];rfl,by rw[I.o];exact aR,S.b⟩
end
section
variable {x:Nat}
def pZ{t:dC}(d:∀w,SS w->cu w b t n f)(i:a.eval (.tmp x)=.pointer (some ⟨b,0,none⟩))(c:A=ct n f)(e:jF P ty n)(g:Region.wanted ⟨some dst,.load ty (.tmp x),t2,p,af,gd⟩ (yielded ops a.tmps)=true:=by kernel_rfl):YieldsIf P ops SS ⟨some dst,.load ty (.tmp x),t2,p,af,gd⟩ (.agg A) a:=by have⟨⟨dd,hu,hd⟩,hi⟩:=e;have h:=yieldsIf_load_mid (P:=P) (S:=SS) (op:=⟨some dst,.load ty (.tmp x),t2,p,af,gd⟩) (ops:=ops) g ty (.tmp x) ae b 0 i A.toList dd (λw h=>Av (d w h) c) hu hd aD;omega
end
def nk:kB prog 107:=⟨⟨_,underlying107,ae⟩,cX⟩
instance in6d1de :pS 107:=⟨nk⟩
def lk(p:Nat->Bool):Nat->Nat->Nat->Nat
 |0,i,_=>i
 |f+1,i,j=>if i<j then(if p ((i+j)/2)=true then lk p f i ((i+j)/2) else lk p f ((i+j)/2+1) j) else i
theorem Bh(p:Nat->Bool):∀(f g i j:Nat),j-i<=f->j-i<=g->lk p f i j=lk p g i j:=by intro f;induction f with|zero=>(intro g i j a b;have c:¬i<j:=cw;cases g with|zero=>rfl|succ g=>unfold lk;grind)|succ f ih=>intro g i j a b;cases g with|zero=>grind|succ g=>unfold lk;grind
def FI(p:Nat->Bool)(n:Nat):Nat:=lk p n 0 n
theorem JF(p:Nat->Bool)(h:i<j):lk p (j-i) i j=if p ((i+j)/2)=true then lk p ((i+j)/2-i) i ((i+j)/2) else lk p (j-((i+j)/2+1)) ((i+j)/2+1) j:=by obtain⟨f,a⟩:∃f,j-i=f+1:=⟨j-i-1,cw⟩;rw[a];show(if i<j then _ else _)=_;rw[cL h,Bh p f ((i+j)/2-i) i _ cw cw,Bh p f (j-((i+j)/2+1)) _ j cw cw]
theorem Nc(p:Nat->Bool):∀(f i j:Nat),i<=j->lk p f i j<=j:=by intro f;induction f<;>grind[lk]
section
attribute[local irreducible]wpList Code.wp Calls Oper.wp wpAnyH
def VI(p:Nat->Bool)(n:Nat)(v:n<=1000000000)(g:Nat)(f:fJ)(w:cB)(t:∀args w,(callFunc g args).run prog w=.ok (.enter g args) w)(hc:∀k W,k<n->dz w W->CP_ g (#[.int .i64 k]++f) W λe w'=>e=.returned (.bool (p k))/\dz W w'):
 rF 234 #[.int .i64 n,.func (.func g) #[] f] w (.int .i64 (FI p n:Nat)):=by
 have l:=cq hc;clear hc;have S:=cq (pF w);go_enter func234,ntmps234;go_wp2_with fail;go_loopw [5,6] (λx y wr=>∃i j:Nat,i<=j/\j<=n/\x=.int .i64 i/\y=.int .i64 j/\Hid (FI p n=lk p (j-i) i j/\St w none [] [] [] (λ_ _=>True) wr)) (λx y _=>(intOf y).toNat-(intOf x).toNat);exact⟨0,n,cw,by omega,ae,ae,ae,S.o⟩;clear S;obtain⟨i,j,q,u,rfl,rfl,hS⟩:=hrel;by_cases c:i<j
 . (have⟨hse,S⟩:=hS.o;clear hS;rw[JF p c] at hse;have⟨m,hm⟩:=c8 ((i+j)/2);rw[hm] at hse;have r:i<=m/\m<j:=cw;have a:=cq hse;have z:IntKind.i64.wrap ((i:Int)+(j:Int))=(((i+j:Nat):Nat):Int):=by rw[j0 _ cw];omega);have A:IntKind.u64.wrap (((i+j:Nat):Nat):Int)=(((i+j:Nat):Nat):Int):=An _ cw;have s:((i:Int)+(j:Int))/2=(m:Int):=cw;have B:IntKind.i64.wrap ((m:Nat):Int)=(m:Int):=j0 _ cw;have d:=cq λW b=>l.o m W cw b;clear hse;rcases hp:p m with _|_;rotate_left
   all_goals
    rw[hp] at d a
    go_wp2_with fail
    refine ah (d.o _ S.b) λW b=>?_;replace S:=cq (And.intro a.o (S.cx b));go_wp2;go_roundw
    case rel=>first|exact⟨m+1,j,cw,by omega,by go_num,ae,S⟩|exact⟨i,m,cw,by omega,ae,ae,S⟩
    case measure=>exact oV
 . obtain rfl:i=j:=cw;have⟨hse,S⟩:=hS.o;rw[Nat.sub_self] at hse;have h:FI p n=i:=hse;have o:=cq h;clear hS hse h;go_wp2;go_ret;exact⟨by rw[o.o];rfl,S.b⟩
def SI(l:List cy)(q:cy)(v:cI)(d g:Nat)(w:cB)(j:cu w d 107 1 (λ_=>v))(m:cu w g 106 3 (c7 q))(R:ko w v l)(e:k<l.length)(z:l.length<=1000000000):
 rF 235 #[.int .i64 k,.pointer (some ⟨d,0,none⟩),.pointer (some ⟨g,0,none⟩)] w (.bool (!kN (l.getD k cH) q)):=by obtain⟨ao,cap,rfl,n,a⟩:=du R;obtain⟨b,o,rfl⟩:=a cw;have R:=cq R;have s:=cq j;have t:=cq m;have⟨p,hp⟩:=c8 (l[k]);rw[P' e,hp];have⟨A,hA⟩:=eW (ct 3 (c7 p));have⟨B,hB⟩:=eW (ct 3 (c7 q));have c:=cq (jK l e (A:=A) (by rw[hp];exact hA));have f:=cq (Qb p q A B hA hB);have u:=cq hA;have x:=cq hB;have S:=pF w;clear j m hp hA hB a;generalize kN p q=r at f|-;go_enter func235,ntmps235;go_upto_region 1 with(fail);refine dL S cX λW S=>?_;refine fW 0 (.slice (s_ b o) l.length cap) ae (fR (b:=d) (o:=0) (λw h=>by obtain⟨_,S⟩:=h;exact cu.cell (cu.cx s.o S.b) (i:=0) cw) ae nk) ?_;refine cJ 1 _ ?_;refine cJ 2 (cZ b (o+k*3)) ?_;refine fW 3 (.agg A) ae (ySl (λw h=>by obtain⟨_,S⟩:=h;exact R.o.cx S.b) e ae (tL u) c.o eN) ?_;refine fW 4 (.agg B) ae (pZ (λw h=>by obtain⟨_,S⟩:=h;exact cu.cx t.o S.b) ae x.o eN) ?_;refine jQ 5 λK y=>?_;go_wp2_with fail;refine je S (f.o _) λW S=>?_;refine fC y ?_;refine cJ 6 (.bool !r) ?_;refine cJ 7 _ ?_;refine pz ?_;go_wp2;go_ret;exact aw
end
def ER(P:kS)(t:dC)(z:Nat):Prop:=P.underlying t=some (.slice (P.elem t))/\∀W,(sizeOf (P.elem t)).run P W=.ok z W
section
variable {x:Nat}
theorem xT{t:dC}(h:ER P t z)(v:cI)(lo hi a:Option cI)(W:cB):(Instr.sliceAt t v lo hi a).run P W=(Instr.slice t v lo hi a).run P W:=by unfold Instr.sliceAt;rw[kj,xC h.1 W];rfl
theorem K7{t:dC}{z:Nat}(h:ER P t z)(ao:Option Addr)(n c y:Nat)(a:y<=n)(W:cB):(Instr.sliceAt t (.slice ao n c) (some (.int .i64 y)) none none).run P W=.ok (.slice (kx ao c y z) (n-y) (c-y)) W:=by rw[xT h,run_slice_l W t ao n c h.1 .i64 (y:Nat) cw cw,h.2];rfl
theorem ab8{t:dC}{z:Nat}(h:ER P t z)(ao:Option Addr)(n c y:Nat)(a:y<=c)(W:cB):(Instr.sliceAt t (.slice ao n c) none (some (.int .i64 y)) none).run P W=.ok (.slice ao y c) W:=by rw[xT h,run_slice_h W t ao n c h.1 .i64 (y:Nat) cw cw,h.2];simp only[Result.andThen,sliced,sO,xi];rcases tZ c with rfl|h;rfl;simp_all[Addr.add]
def XD(dst:Nat)(ty:dC)(x:Nat){lo hi b:Option Operand}(h:wpList P ops Q (⟨some dst,.slice ty (.tmp x) lo hi b,t2,p,af,none⟩::rest) a w):wpList P ops Q (⟨some dst,.slice ty (.tmp x) lo hi b,t2,p,af,none⟩::rest) a w:=h
theorem SJ(d:ER P ty z)(e:a.eval (.tmp x)=.slice ao n c)(b:a.eval hi=.int .i64 y)(f:y<=c)(h:wpList P ops Q rest (a.put (some dst) (.slice ao y c)) w):
 wpList P ops Q (⟨some dst,.slice ty (.tmp x) none (some hi) none,t2,p,af,none⟩::rest) a w:=
 mD ae ty (.tmp x) none (some hi) none ae _ (by grind[ab8]) h
theorem xU(d:ER P ty z)(e:a.eval (.tmp x)=.slice ao n c)(b:a.eval lo=.int .i64 y)(f:y<=n)(h:wpList P ops Q rest (a.put (some dst) (.slice (kx ao c y z) (n-y) (c-y))) w):
 wpList P ops Q (⟨some dst,.slice ty (.tmp x) (some lo) none none,t2,p,af,none⟩::rest) a w:=
 mD ae ty (.tmp x) (some lo) none none ae _ (by grind[K7]) h
end
theorem cK.take(h:cK w e z (.slice ao n c) n xs)(hi:i<=n):cK w e z (.slice ao i c) i (xs.take (i*z)):=by have⟨h1,ao',cap,h2,h3,h4,h5⟩:=h;simp only[kM] at h2;obtain⟨rfl,-,rfl⟩:=h2;have a:=GQ z hi;refine⟨by grind,ao,c,ae,cw,h4,λb=>?_⟩;grind
theorem cK.Bj(h:cK w e z (.slice ao n c) n xs)(hi:i<=n):cK w e z (.slice (kx ao c i z) (n-i) (c-i)) (n-i) (xs.drop (i*z)):=by have⟨h1,ao',cap,h2,h3,h4,h5⟩:=h;simp only[kM] at h2;obtain⟨rfl,-,rfl⟩:=h2;refine⟨by grind[Nat.sub_mul],_,_,ae,cw,by omega,λk=>?_⟩;obtain⟨b,o,a,d,rfl,f,hc⟩:=h5 cw;refine⟨b,o+i*z,a,d,IH b o c i z cw,f,λj u g=>?_⟩;grind
theorem Dd(l:List cy)(i:Nat):(gY l).take (i*3)=gY (l.take i):=by induction l generalizing i with|nil=>simp[gY]|cons p l ih=>cases i with|zero=>simp[gY]|succ i=>rw[take_succ_cons,wT,wT,take_append,xS,<-ih i,nz (by rw[xS];omega),show(i+1)*3-3=i*3 by omega]
theorem De(l:List cy)(i:Nat):(gY l).drop (i*3)=gY (l.drop i):=by induction l generalizing i with|nil=>simp[gY]|cons p l ih=>cases i with|zero=>simp|succ i=>rw[drop_succ_cons,wT,drop_append,xS,<-ih i,Bw (by rw[xS];omega),show(i+1)*3-3=i*3 by omega,ot]
theorem Df:ER prog 107 3:=⟨cX,λW=>by rfl⟩
def SK(l:List cy)(q:cy):Nat:=FI (λk=>!kN (l.getD k cH) q) l.length
def qd(l:List cy)(q:cy):Option (List cy):=
 if xR q=false then none else
 if SK l q<l.length/\l.getD (SK l q) cH=q then none else
 some (l.take (SK l q)++q::l.drop (SK l q))
theorem ab9{l:List cy}{q:cy}(hi:i<=l.length)(h:w.ownsRow base 106 3 v n (([]++(gY l).take (i*3))++(ct 3 (c7 q)).toList++(gY l).drop (i*3))):gg w base v ((some (l.take i++q::l.drop i)).getD []):=by
 show World.ownsRow _ _ _ _ _ (l.take i++q::l.drop i).length (gY (l.take i++q::l.drop i));have a:gY (l.take i++q::l.drop i)=([]++(gY l).take (i*3))++(ct 3 (c7 q)).toList++(gY l).drop (i*3):=by rw[im,wT,Dd,De,ot,wh];rfl
 have b:(l.take i++q::l.drop i).length=n:=by have:=h.1;grind[xK]
 grind
section
attribute[local irreducible]wpList Code.wp Calls Oper.wp wpAnyH
theorem SL(l:List cy)(q:cy)(v:cI)(A:fJ)(G:A=ct 3 (c7 q))(w:cB)(hl:l.length<=100000000)(R:ko w v l):
 CP_ 186 #[v,.agg A] w λe w'=>∃r,e=.returned (.tuple #[r,.int .i64 (fp 131 (qd l q))])/\gg w' w.heap.size r ((qd l q).getD [])/\dz w w':=by
 obtain⟨ao,cap,rfl,j,H⟩:=du R;have R:=cq R;have Q:=cq G;have t:=cq (SF q A G);have S:=pF w;have⟨i,hi⟩:=c8 (SK l q);have a:i<=l.length:=by rw[<-hi];exact Nc _ _ _ _ (fN _)
 have z:qd l q=if xR q=false then none else if i<l.length/\l.getD i cH=q then none else some (l.take i++q::l.drop i):=by unfold qd;rw[hi]
 have c:=cq z;have D:FI (λk=>!kN (l.getD k cH) q) l.length=i:=hi;have N:∀args w,(callFunc 235 args).run prog w=.ok (.enter 235 args) w:=enters_of func235 cX ae;have J:=cq λ(U:fJ)W hc=>VI (λk=>!kN (l.getD k cH) q) l.length cw 235 U W N hc;rw[D] at J;clear G z hi D N H;go_enter func186,ntmps186;go_upto_region 2 with(first|(have O:=λ(k:Nat)(T:cB)(V:k<l.length)y=>SI l q (.slice ao l.length cap) _ _ T (cu.cx S.k1 y) (cu.cx S.k0 y) ((R.o.cx S.b).cx y) V cw;refine(J.o #[cZ _ 0,cZ _ 0] _ O).mono ?_;clear O;rintro e W ⟨rfl,y⟩;replace S:=S.cx y)|refine eR ?_|refine ey λW S=>?_)
 cases C:xR q with
 |false=>rw[C] at t;have f:Hid (qd l q=none):=cq (by rw[c.o,cL C]);clear C;refine dL S cX λW S=>?_;refine cJ 0 (.agg A) ?_;refine jQ 1 λK s=>?_;go_wp2_with fail;refine je S (t.o _) λW S=>?_;refine fC s ?_;refine cJ 2 (.bool true) ?_;refine cJ 3 _ ?_;refine oA 4 ?_;refine oA 5 ?_;refine oA 6 ?_;refine oA 7 ?_;refine oA 8 ?_;refine oA 9 ?_;refine oA 10 ?_;refine oA 11 ?_;refine oA 12 ?_;refine oA 13 ?_;refine oA 14 ?_;refine oA 15 ?_;refine cJ 16 (.bool true) ?_;refine pz ?_;go_wp2;go_ret2;exact ak5
 |true=>
  rw[C] at t c;rw[cM dU] at c;clear C;by_cases d:i<l.length
  . (obtain⟨b,o,rfl⟩:∃b o,ao=s_ b o:=by obtain⟨_,_,Z,_,h⟩:=du R.o;grind);have⟨p,hp⟩:=c8 (l[i]);have⟨B,hB⟩:=eW (ct 3 (c7 p));have m:=cq (jK l d (A:=B) (by rw[hp];exact hB));rw[P' d,hp] at c;have⟨e,he⟩:=c8 (decide (p=q));have I:=Ev p q e he;rw[cP hB,cP Q.o] at I;have M:=cq I;have L:=cq hB;clear I hB hp;cases e with|true=>have f:Hid (qd l q=none):=cq (by rw[c.o,cL ⟨d,lr he⟩]);clear he;refine dL S cX λW S=>?_;refine cJ 0 (.agg A) ?_;refine jQ 1 λK s=>?_;go_wp2_with fail;refine je S (t.o _) λW S=>?_;refine fC s ?_;refine cJ 2 (.bool false) ?_;refine cJ 3 _ ?_;refine cJ 4 _ ?_;refine cJ 5 (.slice (s_ b o) l.length cap) ?_;refine cJ 6 (.int .i64 l.length) ?_;refine fW 7 (.bool true) ae (Or.inl ⟨cX,λw F=>by have E:(i:Int)<(l.length:Int):=cw;go_simp⟩) ?_;refine cJ 8 _ ?_;refine cJ 9 (.slice (s_ b o) l.length cap) ?_;refine cJ 10 _ ?_;refine cJ 11 (cZ b (o+i*3)) ?_;refine fW 12 (.agg B) ae (ySl (λw h=>by obtain⟨_,S⟩:=h;exact R.o.cx S.b) d ae (tL L) m.o eN) ?_;refine cJ 13 (.agg A) ?_;refine fW 14 (.bool true) ae (Or.inl ⟨cX,λw F=>by have E:=M.o;go_simp⟩) ?_;refine cJ 15 (.bool true) ?_;refine cJ 16 (.bool true) ?_;refine pz ?_;go_wp2;go_ret2;exact ak5|false=>have f:Hid (qd l q=some (l.take i++q::l.drop i)):=cq (by rw[c.o,cM (λh=>xg he h.2)]);clear he;refine dL S cX λW S=>?_;refine cJ 0 (.agg A) ?_;refine jQ 1 λK s=>?_;go_wp2_with fail;refine je S (t.o _) λW S=>?_;refine fC s ?_;refine cJ 2 (.bool false) ?_;refine cJ 3 _ ?_;refine cJ 4 _ ?_;refine cJ 5 (.slice (s_ b o) l.length cap) ?_;refine cJ 6 (.int .i64 l.length) ?_;refine fW 7 (.bool true) ae (Or.inl ⟨cX,λw F=>by have E:(i:Int)<(l.length:Int):=cw;go_simp⟩) ?_;refine cJ 8 _ ?_;refine cJ 9 (.slice (s_ b o) l.length cap) ?_;refine cJ 10 _ ?_;refine cJ 11 (cZ b (o+i*3)) ?_;refine fW 12 (.agg B) ae (ySl (λw h=>by obtain⟨_,S⟩:=h;exact R.o.cx S.b) d ae (tL L) m.o eN) ?_;refine cJ 13 (.agg A) ?_;refine fW 14 (.bool false) ae (Or.inl ⟨cX,λw F=>by have E:=M.o;go_simp⟩) ?_;refine cJ 15 (.bool false) ?_;refine cJ 16 (.bool false) ?_;refine pz ?_;go_wp2_with (first|refine IX S (n:=l.length+1) fU rfl (by rw[Int.natCast_add];rfl) cw wR rfl rfl λg W S=>?_|refine SJ Df ae ae (gO a j) ?_|refine EP S 0 rfl (by':=24) rfl rfl (cK.take (R.o.cx S.b) a) fU (by rw[Dd];exact nG _) Br wR λX W S=>?_|refine rK S 0 rfl 0 rfl rfl rfl rfl fU (df _) Br wR λx u W S=>?_|refine xU Df ae ae a ?_|refine EP S 0 rfl (by':=24) akL rfl (cK.Bj (R.o.cx S.b) a) fU (by rw[De];exact nG _) Br wR λY W S=>?_|refine eR ?_|refine ey λW S=>?_);go_ret2;exact ak6
  . have f:Hid (qd l q=some (l.take i++q::l.drop i)):=cq (by rw[c.o,cM (λh=>d h.1)]);refine dL S cX λW S=>?_;refine cJ 0 (.agg A) ?_;refine jQ 1 λK s=>?_;go_wp2_with fail;refine je S (t.o _) λW S=>?_;refine fC s ?_;refine cJ 2 (.bool false) ?_;refine cJ 3 _ ?_;refine cJ 4 _ ?_;refine cJ 5 (.slice ao l.length cap) ?_;refine cJ 6 (.int .i64 l.length) ?_;refine fW 7 (.bool false) ae (Or.inl ⟨cX,λw F=>by have E:¬(i:Int)<(l.length:Int):=cw;go_simp⟩) ?_;refine cJ 8 _ ?_;refine oA 9 ?_;refine oA 10 ?_;refine oA 11 ?_;refine oA 12 ?_;refine oA 13 ?_;refine oA 14 ?_;refine cJ 15 (.bool false) ?_;refine cJ 16 (.bool false) ?_;refine pz ?_;go_wp2_with (first|refine IX S (n:=l.length+1) fU rfl (by rw[Int.natCast_add];rfl) cw wR rfl rfl λg W S=>?_|refine SJ Df ae ae (gO a j) ?_|refine EP S 0 rfl (by':=24) rfl rfl (cK.take (R.o.cx S.b) a) fU (by rw[Dd];exact nG _) Br wR λX W S=>?_|refine rK S 0 rfl 0 rfl rfl rfl rfl fU (df _) Br wR λx u W S=>?_|refine xU Df ae ae a ?_|refine EP S 0 rfl (by':=24) akL rfl (cK.Bj (R.o.cx S.b) a) fU (by rw[De];exact nG _) Br wR λY W S=>?_|refine eR ?_|refine ey λW S=>?_);go_ret2;exact ak6
def okC(c:Nat):Bool:=decide (97<=c/\c<=122)||decide (48<=c/\c<=57)||decide (c=45)||decide (c=95)
def dV(s:fh):Bool:=decide (1<=s.size/\s.size<=24)&& (range s.size).all λk=>okC s[k]!.toNat
theorem FJ(a:k<s.size)(h:okC s[k]!.toNat=false):dV s=false:=by unfold dV;grind
def ES(w:cB)(s:fh)(p:Nat):dz w (w.iter s p):=(fO _ _).alloc (dK _) _
def rL (s:fh)(w:cB):rF 126 #[.string s] w (.bool (dV s)):=by
 by_cases h1:s.size<1
 . have hn:Hid (dV s=false):=cq (by unfold dV;rw[iC cw];rfl);have g1: (s.size:Int)<1:=cw;go_enter func126,ntmps126;go_wp2;go_ret;exact⟨by rw[hn.o];rfl,fO _ _⟩
 by_cases h2:24<s.size
 . have hn:Hid (dV s=false):=cq (by unfold dV;rw[iC cw];rfl);have g1: ¬(s.size:Int)<1:=cw;have g2: (24:Int)< (s.size:Int):=cw;go_enter func126,ntmps126;go_wp2;go_ret;exact⟨by rw[hn.o];rfl,fO _ _⟩
 have g1: ¬(s.size:Int)<1:=cw;have g2: ¬(24:Int)< (s.size:Int):=cw;have hb:=cq (And.intro h1 h2);clear h1 h2;go_enter func126,ntmps126;go_wp2
 go_loopw [] (λwr=>∃pos:Nat,pos<=s.size/\wr=w.iter s pos/\Hid (∀j,j<pos->okC s[j]!.toNat=true)) (λwr=>s.size - wr.iterPos w.heap.size)
 case atStart=>exact⟨0,cw,rfl,λj hj=>absurd hj (u' _)⟩
 case round=>
  obtain⟨pos,hpl,rfl,hS⟩:=hrel;by_cases hp:pos<s.size
  . have hnx: ∀ty,(Instr.next (cZ w.heap.size 0) true ty).run prog (w.iter s pos)=_:=λty=>run_next_any w s pos ty hp;obtain⟨c,hc⟩:=c8 (s[pos]!.toNat);have hcg: (s[pos]'hp).toNat=c:=by rw[<-hc,getElem!_pos s pos hp]
    by_cases ha:c<128
    . rw[decode_ascii s pos hp (by rw[hcg];exact ha)] at hnx;rw[hcg] at hnx;cases ho:okC c with
      | true=>
       have hS2:Hid (∀j,j<pos+1->okC s[j]!.toNat=true):=cq λj hj=>by
        rcases Bz.1 hj with h | rfl
        . exact hS.o j h
        . rw[hc];exact ho
       clear hcg hc;unfold okC at ho;simp only[Bool.or_eq_true,pG] at ho;have HO:=cq ho;clear ho;go_wp2
       all_goals first
        |(go_roundw
          case rel=>exact⟨pos+1,cw,rfl,hS2⟩
          case measure=>simp;omega)
        |(exfalso;have ho:=HO.o;simp only[lx,ne_eq] at*;omega)
      | false=>
       have hn:Hid (dV s=false):=cq (FJ hp (by rw[hc];exact ho));clear hcg hc;unfold okC at ho;simp only[Bool.or_eq_false_iff,Pe] at ho;have HO:=cq ho;clear ho;go_wp2
       all_goals first|(go_ret;exact⟨by rw[hn.o];rfl,ES _ _ _⟩)|(exfalso;have ho:=HO.o;simp only[yl] at*;omega)
    . have hd:=(decode_high s pos hp (by rw[hcg];omega)).1;have hn:Hid (dV s=false):=cq (FJ hp (by rw[hc];unfold okC;simp;omega));generalize Utf8.decode s pos=x at hnx hd;obtain⟨r,u⟩:=x;simp only at hnx hd;clear hcg hc;go_wp2
      all_goals first|(go_ret;exact⟨by rw[hn.o];rfl,ES _ _ _⟩)
  . obtain rfl:pos=s.size:=cw;have hnx: ∀ty,(Instr.next (cZ w.heap.size 0) true ty).run prog (w.iter s s.size)=_:=λty=>run_next_end w s s.size ty hp;have hn:Hid (dV s=true):=cq (by
     unfold dV;rw[aiL,qk];refine⟨fQ (by have:=hb.o;omega),λk hk=>hS.o k (wZ.1 hk)⟩)
    go_wp2;go_ret;exact⟨by rw[hn.o];rfl,ES _ _ _⟩
def JG:fh:=⟨#[64]⟩
def qz:fh:=⟨#[]⟩
def kD(jA cW:fh):fh:=
 if dV jA=false then qz else if cW=qz then jA else if dV cW=false then qz else jA++JG++cW
theorem jL{s:fh}(h:dV s=true):s.size<=24:=by simp_all[dV]
theorem zE(h:s≠qz):s.toList.isEmpty=false:=by rw[BZ,Ke];intro a;apply h;have⟨d⟩:=s;grind[qz]
theorem FK(jA cW:fh)(j:cW.size<=1000)(w:cB):rF 104 #[.string jA,.string cW] w (.string (kD jA cW)):=by
 have c:=cq λw=>rL jA w;have f:=cq λw=>rL cW w;have S:=pF w;cases a:dV jA with
 |false=>rw[a] at c;have b:Hid (kD jA cW=qz):=cq (by unfold kD;rw[cL a]);clear a;go_enter func104,ntmps104;go_wp2_with (go_at_call 126;refine je S (c.o _) λW S=>?_);go_ret;exact akD
 |true=>
  rw[a] at c;by_cases d:cW=qz
  . have b:Hid (kD jA cW=jA):=cq (by unfold kD;rw[cM (by rw[a];simp),cL d]);subst d;clear a;unfold qz;go_enter func104,ntmps104;go_wp2_with (go_at_call 126;refine je S (c.o _) λW S=>?_);go_ret;exact⟨by rw[show kD jA ⟨#[]⟩=jA from b.o];rfl,S.b⟩
  . have i:=zE d;cases e:dV cW with|false=>rw[e] at f;have b:Hid (kD jA cW=qz):=cq (by unfold kD;rw[cM (by rw[a];simp),cM d,cL e]);clear a e d;go_enter func104,ntmps104;go_wp2_with (first|(go_at_call_has 126 cW;refine je S (f.o _) λW S=>?_)|(go_at_call 126;refine je S (c.o _) λW S=>?_));go_ret;exact akD|true=>(rw[e] at f;have b:Hid (kD jA cW=jA++JG++cW):=cq (by unfold kD;grind);have g:¬9223372036854775807<jA.size+1:=by have:=jL a;omega);(have h:¬9223372036854775807<jA.size+1+cW.size:=by have:=jL a;have:=jL e;omega);clear a e d;go_enter func104,ntmps104;go_wp2_with (first|(go_at_call_has 126 cW;refine je S (f.o _) λW S=>?_)|(go_at_call 126;refine je S (c.o _) λW S=>?_));go_ret;exact akD
def Nd(s:fh)(c:Int)(w:cB):CP_ 263 #[.string s,.int .u8 c] w λe w'=>e=.returned (.int .i64 (firstIdx s c.toNat.toUInt8))/\w=w':=by
 have a:∀w,(callFunc 282 #[.string s,.int .u8 c]).run prog w=.ok (.value (.int .i64 (firstIdx s c.toNat.toUInt8))) w:=by intro w;rw[run_callFunc_extern func282 cX cX cX (e:=Extern.BytealgIndexByte.indexByte) cX,run_indexByte_string];rfl
 generalize firstIdx s c.toNat.toUInt8=r at a|-;go_enter func263,ntmps263;go_wp2;go_ret;exact ay
def atIdx(s:fh):Int:=firstIdx s 64
theorem VJ:atIdx JG=0:=by rfl
theorem Zh(h:s≠JG):([(64:UInt8)]==s.toList)=false:=by rw[BZ,lx];intro a;apply h;simp_all[JG]
def Zi(s:fh)(w:cB):CP_ 231 #[.string s,.string JG] w λe w'=>e=.returned (.int .i64 (atIdx s))/\w=w':=by
 by_cases b:s=JG
 . subst b;rw[VJ];unfold JG;go_enter func231,ntmps231;go_wp2_with fail;(all_goals go_ret);all_goals exact ay
 . have a:=cq λw=>Nd s 64 w;rw[show firstIdx s (64:Int).toNat.toUInt8=atIdx s from ae] at a;generalize atIdx s=r at a|-;have c:=Zh b;clear b;unfold JG;go_enter func231,ntmps231;go_wp2_with (go_at_call 263;refine lB (a.o _) ?_);go_ret;exact ay
theorem SM(s:fh): -1<=atIdx s/\atIdx s<(s.size:Int):=by grind[atIdx,firstIdx]
def xV(s:fh):fh×fh×Bool:=
 if 0<=atIdx s then(s.extract 0 (atIdx s).toNat,s.extract ((atIdx s).toNat+1) s.size,true) else(s,qz,false)
def VK(s:fh)(j:s.size<=140737488355328)(w:cB):rF 174 #[.string s,.string JG] w (.tuple #[.string (xV s).1,.string (xV s).2.1,.bool (xV s).2.2]):=by
 have b:=cq λw=>Zi s w;have d:=SM s;have S:=pF w;by_cases a:0<=atIdx s
 . obtain⟨i,hi⟩:∃i:Nat,atIdx s=i:=⟨(atIdx s).toNat,cw⟩;have c:Hid (xV s=(s.extract 0 i,s.extract (i+1) s.size,true)):=cq (by unfold xV;rw[cL a,hi];rfl);have f:i<s.size:=cw;rw[hi] at b;clear d a hi;unfold JG at b|-;go_enter func174,ntmps174;go_upto_region 3 with(go_at_call 231;refine lB (b.o _) ?_);refine dL S cX λW S=>?_;refine cJ 0 _ ?_;refine cJ 1 _ ?_;refine fW 2 (.string (s.extract 0 i)) ae (Or.inl ⟨cX,λw e=>by have a:i<=s.size:=cw;go_simp⟩) ?_;refine cJ 3 _ ?_;refine cJ 4 _ ?_;refine cJ 5 _ ?_;refine cJ 6 (.int .i64 1) ?_;refine fW 7 (.int .i64 ((i:Int)+1)) ae (Or.inl ⟨cX,λw e=>by have a:IntKind.i64.wrap ((i:Int)+1)=(i:Int)+1:=j0 _ cw;go_simp⟩) ?_;refine fW 8 (.string (s.extract (i+1) s.size)) ae (Or.inl ⟨cX,λw e=>by have a:¬((s.size:Int)<(i:Int)+1):=cw;have g:((i:Int)+1).toNat=i+1:=cw;have h:¬((i:Int)+1<0):=cw;go_simp⟩) ?_;refine cJ 9 _ ?_;refine cJ 10 _ ?_;refine cJ 11 _ ?_;refine pz ?_;go_wp2;go_ret3;exact akE
 . have c:Hid (xV s=(s,qz,false)):=cq (by unfold xV;rw[cM a]);have hi:atIdx s= -1:=cw;rw[hi] at b;clear d a hi;unfold JG at b|-;go_enter func174,ntmps174;go_wp2_with (go_at_call 231;refine lB (b.o _) ?_);go_ret3;exact akE
def VL(s:fh)(e:s.size<=140737488355328)(w:cB):rF 125 #[.string s,.string JG] w (.tuple #[.string (xV s).1,.string (xV s).2.1,.bool (xV s).2.2]):=by have d:=cq (VK s e);obtain⟨⟨a,b,c⟩,hc⟩:∃x,xV s=x:=⟨_,ae⟩;rw[hc] at d|-;clear hc;have S:=pF w;go_enter func125,ntmps125;go_wp2_with (go_at_call 174;refine je S (d.o _) λW S=>?_);go_ret3;exact aw
def dG(s:fh):Option (fh×fh):=
 if dV (xV s).1=false∨((xV s).2.2=true/\dV (xV s).2.1=false) then none else some ((xV s).1,(xV s).2.1)
def rM(s:fh)(h:s.size<=140737488355328)(w:cB):rF 63 #[.string s] w (.tuple #[.string ((dG s).getD (qz,qz)).1,.string ((dG s).getD (qz,qz)).2,.int .i64 (fp 141 (dG s))]):=by
 have e:=cq (VL s h);unfold JG at e;obtain⟨⟨a,b,c⟩,hc⟩:∃x,xV s=x:=⟨_,ae⟩;have d:dG s=if dV a=false∨(c=true/\dV b=false) then none else some (a,b):=by unfold dG;rw[hc]
 rw[hc] at e;clear hc;have f:=cq λw=>rL a w;have g:=cq λw=>rL b w;have S:=pF w;rcases ha:dV a with _|_;rw[ha] at f;rw[cL (.inl ha)] at d;rotate_left;rw[ha] at f d;rcases c with _|_;rw[cM dU] at d;rotate_left
 . rcases hb:dV b with _|_;rotate_left
   all_goals
    rw[hb] at g d
    first|rw[cL aj0] at d|rw[cM dU] at d
    rw[d];clear ha hb d;go_enter func63,ntmps63
    go_wp2_with first|(go_at_call 125;refine je S (e.o _) λW S=>?_)|(go_at_call_has 126 a;refine je S (f.o _) λW S=>?_)|(go_at_call 126;refine je S (g.o _) λW S=>?_)
    go_ret3;exact aw
 all_goals
  rw[d];clear ha d;go_enter func63,ntmps63
  go_wp2_with first|(go_at_call 125;refine je S (e.o _) λW S=>?_)|(go_at_call 126;refine je S (f.o _) λW S=>?_)
  go_ret3;exact aw
end
structure tS(Y:cD->cB->Prop):Prop where
 cx:∀{B w w'},Y B w->dz w w'->Y B w'
 add:∀{B w b},Y B w->w.heap.size<=b->Y (b::B) w
 mono:∀{B B' w},Y B w->(∀k∈B',k∈B)->Y B' w
 but:∀{B w w' b},Y B w->b∈B->iU b w w'->Y B w'
 fr:∀{B w w' d l},Y B w->Fr d l w w'->Y B w'
def eI(e:dC)(z:Nat)(v:cI)(n:Nat)(xs:List cI)(d:kO e=false)(g:fT e=false):tS (xL e z v n xs):=
 ⟨λa b=>On a b,λa b=>Xu a b,λa b=>Sr a b,λa b c=>Xt a b c,λa f=>abN a f d g⟩
def tS.and{Z:cD->cB->Prop}(h:tS Y)(g:tS Z):tS (λB w=>Y B w/\Z B w):=
 ⟨λa b=>⟨h.cx a.1 b,g.cx a.2 b⟩,λa b=>⟨h.add a.1 b,g.add a.2 b⟩,λa b=>⟨h.mono a.1 b,g.mono a.2 b⟩,λa b c=>⟨h.but a.1 b c,g.but a.2 b c⟩,λa f=>⟨h.fr a.1 f,g.fr a.2 f⟩⟩
def Hl(s:List α){Y:α->cD->cB->Prop}(h:∀x∈s,tS (Y x)):tS (λB w=>∀x∈s,Y x B w):=
 ⟨λa b x d=>(h x d).cx (a x d) b,λa b x d=>(h x d).add (a x d) b,λa b x d=>(h x d).mono (a x d) b,λa b c x d=>(h x d).but (a x d) b c,λa f x d=>(h x d).fr (a x d) f⟩
def kK.still(h:kK d X)(g:tS Y):kK d (λB w=>X B w/\Y B w):=
 ⟨λa b=>⟨h.cx a.1 b,g.cx a.2 b⟩,λa b=>⟨h.add a.1 b,g.add a.2 b⟩,λa b=>⟨h.mono a.1 b,g.mono a.2 b⟩,λa b c t u v=>⟨h.but a.1 b c t u v,g.but a.2 b c⟩,λa e=>h.dev a.1 e⟩
def tS.k8(g:tS Y):kK none Y:=⟨λa b=>g.cx a b,λa b=>g.add a b,λa b=>g.mono a b,λa b c _ _ _=>g.but a b c,λ_ e=>by cases e⟩
structure cR where
 id:Nat
 name:fh
 cW:Bool
 cG:Nat
 cT:Nat
 cA:Nat
 blocks:Nat
 cz:cy
 cO:List cy
structure dg extends cR where
 dO:Option Addr
 cap:Nat
def dg.dv(x:dg):cI:=.slice x.dO x.cO.length x.cap
def gq(x:dg):Nat->cI:=λi=>if i=0 then .int .u64 x.id else if i=1 then .string x.name else if i=2 then .bool x.cW else if i=3 then .int .u64 x.cG else if i=4 then .int .u64 x.cT else if i=5 then .int .u64 x.cA else if i=6 then .int .i64 x.blocks else if i<10 then c7 x.cz (i-7) else x.dv
theorem lM(x:dg):∀i,(gq x i).oneCell'=true:=by
 intro i;unfold gq;repeat' split
 all_goals first|rfl|exact df _ _
instance in0da92(x:dg):OF (gq x):=⟨lM x⟩
instance in45727(x:dg):CV (gq x) 0 (.int .u64 x.id):=⟨rfl⟩
instance ine4247(x:dg):CV (gq x) 1 (.string x.name):=⟨rfl⟩
instance in84358(x:dg):CV (gq x) 2 (.bool x.cW):=⟨rfl⟩
instance ina7f67(x:dg):CV (gq x) 3 (.int .u64 x.cG):=⟨rfl⟩
instance in452fc(x:dg):CV (gq x) 4 (.int .u64 x.cT):=⟨rfl⟩
instance inc831e(x:dg):CV (gq x) 5 (.int .u64 x.cA):=⟨rfl⟩
instance in21e4d(x:dg):CV (gq x) 6 (.int .i64 x.blocks):=⟨rfl⟩
instance in2b210(x:dg):CV (gq x) 10 (.slice x.dO x.cO.length x.cap):=⟨rfl⟩
def SN(x:dg):List cI:=(ct 11 (gq x)).toList
theorem zF(x:dg):(SN x).length=11:=by rfl
def ij(l:List dg):List cI:=l.flatMap SN
theorem np(l:List dg):(ij l).length=l.length*11:=vw zF l
theorem vx(l m:List dg):ij (l++m)=ij l++ij m:=by grind[ij]
theorem SO(x:dg):ij [x]=SN x:=by rfl
theorem Zj(l:List dg):∀u∈ij l,u.oneCell'=true:=by
 intro u a;unfold ij at a;obtain⟨p,_,h⟩:=By.1 a;unfold SN at h;obtain⟨i,hi,rfl⟩:=xh.1 h;rw[Array.getElem_toList];have b:(ct 11 (gq p))[i]?=some (gq p i):=by rw[cU,cL aD]
 grind[lM]
def xW(w:cB)(x:dg):Prop:=ko w x.dv x.cO
def fE(w:cB)(v:cI)(l:List dg):Prop:=cK w 109 11 v l.length (ij l)/\∀x∈l,xW w x
def IY(x:dg):cD->cB->Prop:=xL 106 3 x.dv x.cO.length (gY x.cO)
def qA(v:cI)(l:List dg):cD->cB->Prop:=λB w=>xL 109 11 v l.length (ij l) B w/\∀x∈l,IY x B w
def AE(x:dg):tS (IY x):=eI 106 3 _ _ _ ae ae
def eT(v:cI)(l:List dg):tS (qA v l):=(eI 109 11 v _ _ ae ae).and (Hl l λx _=>AE x)
theorem qA.sl{l:List dg}(h:qA v l B w):fE w v l:=⟨h.1.1,λx a=>(h.2 x a).1⟩
theorem fE.x{l:List dg}(h:fE w v l):qA v l [] w:=⟨⟨h.1,λ_ _ _=>by simp⟩,λx a=>⟨h.2 x a,λ_ _ _=>by simp⟩⟩
theorem fE.cx{l:List dg}(h:fE w v l)(s:dz w w'):fE w' v l:=((eT v l).cx h.x s).sl
theorem fE.fr{d:Option Nat}{b:cD}{w w':cB}{v:cI}{l:List dg}(h:fE w v l)(s:Fr d b w w'):fE w' v l:=((eT v l).fr h.x s).sl
def qW(w:cB)(base:Nat)(x:dg):Prop:=xW w x/\(0<x.cO.length->∀b,x.dv.ownBlock=some b->base<=b)
def qW.of{x:dg}(h:gg w base x.dv x.cO):qW w base x:=
 ⟨h.sl,λ_ b a=>(h.lt b a).1⟩
theorem qW.x{x:dg}(h:qW w w0.heap.size x)(a:∀b∈B,b<w0.heap.size):IY x B w:=
 ⟨h.1,λe b c d=>tP _ (Nat.lt_of_le_of_lt (h.2 e b c) (a b d))⟩
def AG(w:cB)(base:Nat)(v:cI)(l:List dg):Prop:=w.ownsRow base 109 11 v l.length (ij l)/\∀x∈l,qW w base x
theorem AG.sl{l:List dg}(h:AG w base v l):fE w v l:=⟨cK.iW h.1,λx a=>(h.2 x a).1⟩
theorem mu(l:List dg)(hi:i<l.length)(a:A=ct 11 (gq l[i])):∀j,j<11->(ij l)[i*11+j]?=A[j]?:=by intro j b;rw[a];unfold ij;rw[flat_get zF l hi b];grind[SN]
def my(w:cB)(b o:Nat)(x:dg):Prop:=∀k,k<11->w.cell? ⟨b,o+k,none⟩=some (gq x k)
theorem cK.cellAt{o:Nat}(h:cK w e z (.slice (some ⟨b,o,none⟩) n cap) n xs)(f:0<n)(g:xs[j]?=some u):w.cell? ⟨b,o+j,none⟩=some u:=by obtain⟨_,ao,a,c,_,_,d⟩:=h;have⟨b',o',cs,fl,e1,hh,hc⟩:=d f;simp only[kM] at c;obtain⟨rfl,-,-⟩:=c;cases e1<;>grind[cell_of_row]
theorem fE.at{o:Nat}{l:List dg}(h:fE w (.slice (some ⟨b,o,none⟩) n cap) l){x:dg}(f:l[i]?=some x):my w b (o+i*11) x:=by
 intro k d;obtain⟨hi,rfl⟩:=mQ.1 f;have c:=h.1;obtain⟨_,ao,a,g,_⟩:=id c;have e:n=l.length:=by grind
 subst e;rw[GS];exact c.cellAt cw (by rw[mu l hi ae k d,cU,cL d])
theorem my.cx{o:Nat}{x:dg}(h:my w b o x)(c:dz w w'):my w' b o x:=λk a=>c.cell (q9 (h k a)) |>.trans (h k a)
section
variable {o:Nat}{x:dg}
def my.c0(h:my w b o x):w.cell? ⟨b,o,none⟩=some (.int .u64 x.id):=h 0 cw
theorem my.c1(h:my w b o x):w.cell? ⟨b,o+1,none⟩=some (.string x.name):=h 1 cw
theorem my.c2(h:my w b o x):w.cell? ⟨b,o+2,none⟩=some (.bool x.cW):=h 2 cw
theorem my.c3(h:my w b o x):w.cell? ⟨b,o+3,none⟩=some (.int .u64 x.cG):=h 3 cw
def my.c4(h:my w b o x):w.cell? ⟨b,o+4,none⟩=some (.int .u64 x.cT):=h 4 cw
def my.c5(h:my w b o x):w.cell? ⟨b,o+5,none⟩=some (.int .u64 x.cA):=h 5 cw
def my.c6(h:my w b o x):w.cell? ⟨b,o+6,none⟩=some (.int .i64 x.blocks):=h 6 cw
def my.c10(h:my w b o x):w.cell? ⟨b,o+10,none⟩=some x.dv:=h 10 cw
end
def kE:Option Nat->Int
 |none=>-1
 |some k=>(k:Int)
def eu(l:List cR)(id:Nat):Option Nat:=l.findIdx? λx=>decide (x.id=id)
def dJ(l:List dg):List cR:=l.map dg.tocR
theorem l9(l:List dg)(k:Nat):(dJ l)[k]?=l[k]?.map dg.tocR:=by grind[dJ]
theorem gj(l:List dg):(dJ l).length=l.length:=by grind[dJ]
theorem AH{p:α->Bool}{l:List α}{x:α}(c:l[k]?=some x)(b:p x=true)(a:∀(j:Nat)y,l[j]?=some y->j<k->p y=false):l.findIdx? p=some k:=by rw[GV];grind
theorem AI{p:α->Bool}{l:List α}(c:∀(j:Nat)y,l[j]?=some y->j<l.length->p y=false):l.findIdx? p=none:=by rw[findIdx?_eq_none_iff];intro x a;obtain⟨j,b,rfl⟩:=xh.1 a;grind
theorem IZ{p:α->Bool}{l:List α}(h:l.findIdx? p=some k):∃x,l[k]?=some x/\p x=true:=by grind[findIdx?_eq_some_iff_getElem]
section
attribute[local irreducible]wpList Code.wp Calls Oper.wp wpAnyH
def si(l:List dg)(v:cI)(id:Nat)(t:l.length<=1000000)(w:cB)(R:fE w v l):rF 103 #[v,.int .u64 id] w (.int .i64 (kE (eu (dJ l) id))):=by
 obtain⟨ao,cap,rfl,p,a⟩:=du R.1;have S:=cq (pF w);go_enter func103,ntmps103;go_upto_region 2 with(fail);go_loopw [8] (λi wr=>∃k:Nat,k<=l.length/\i=.int .i64 k/\Hid ((∀(j:Nat)y,(dJ l)[j]?=some y->j<k->decide (y.id=id)=false)/\St w none [] [] [] (λ_ _=>True) wr)) (λi _=>l.length-(intOf i).toNat);exact bT;clear S;obtain⟨k,s,rfl,hS⟩:=hrel;by_cases d:k<l.length
 . obtain⟨b,o,rfl⟩:=a cw;obtain⟨x,f⟩:∃x,l[k]?=some x:=⟨_,iz d⟩;have n:=cq ((R.cx hS.o.2.fr.cx).at f);have m:=cq f;clear f;rcases z6 (x.id=id) with rfl|he
   . go_wp2_with (with_reducible refine jo 15 82 14 n.o.c0 ?_);go_ret;have e:eu (dJ l) x.id=some k:=AH (by rw[l9,m.o];rfl) (fQ ae) hS.o.1;exact akl
   . have q:¬((x.id:Nat):Int)=(id:Nat):=cw;go_wp2_with (with_reducible refine jo 15 82 14 n.o.c0 ?_);go_roundw;refine⟨k+1,cw,by go_num,cq ⟨λj y g r=>?_,hS.o.2⟩⟩;by_cases c:j=k;subst c;rw[l9,m.o] at g;cases g;exact iC he;exact hS.o.1 j y g cw;exact oV
 . obtain rfl:k=l.length:=cw;go_wp2;go_ret;have e:eu (dJ l) id=none:=AI (by rw[gj];exact hS.o.1);exact akl
end
section
variable {x:Nat}
theorem cS(h:w.ownsRow base e z v n xs):∃ao c,v=.slice ao n c:=by rcases h.2 with⟨rfl,rfl⟩|⟨g,cap,a,rfl,_⟩<;>grind
theorem aca(S:St w0 d l L O X w)(j:Nat)(m:O[j]?=some o){t:dC}(D:a.eval q=o.v)(E:a.eval r=v)(R:cK w T o.z v n xs)(ht:vT P t o.e o.z by')(H:∀u∈xs,u.oneCell'=true)(Z:(o.n+n)*by'<=140737488355328)(Y:o.n+n<=maxLen)(h:∀ao c W,St w0 d l L (O.set j ⟨o.e,o.z,.slice ao (o.n+n) c,o.n+n,o.xs++xs⟩) X W->K (a.put (some dst) (.slice ao (o.n+n) c)) W):
 Oper.wp P ⟨some dst,.call {callee:=.builtin .append,args:=#[q,r],argTypes:=#[t,t]},t2,p,af,none⟩ a w K Q:=by
 have y:j<O.length:=(mQ.1 m).1;have C:∀v' W,St w0 d l L (O.set j ⟨o.e,o.z,v',o.n+n,o.xs++xs⟩) X W->K (a.put (some dst) v') W:=λv' W hS=>by obtain⟨ao,c,hv⟩:=cS (hS.s8 (k:=j) (by rw[z8,cL ae,cL y]));grind
 have⟨hu,zv,hi,hz,h0⟩:=ht;have⟨it,hi1,hz0,hz1,hz2⟩:=nB hi;obtain⟨V,ao,cap,rfl,I,J,x⟩:=R;by_cases z:n=0;(subst z;have A:xs=[]:=wj cw;subst A;unfold Oper.wp execOp;simp only[resolve,invoke,builtin,kj,qq,mS,map_toArray,xd,map_nil,D,E,Bg (P:=P) w w0.heap.size t t2 o.e it o.z hu hi1 o.v o.n o.xs (S.s8 m) ao cap];refine C _ _ ?_;rw[wi,vd];have e1:O.set j ⟨o.e,o.z,o.v,o.n,o.xs⟩=O:=by apply wm;simp_all[z8]);grind;obtain⟨b,e,F,G,rfl,U,M⟩:=x cw;refine wp_append_lies w q r t ae w0.heap.size o.e it zv o.z by' hu hi1 hz0 hz1 hz2 hz h0 o.v o.n o.xs D (S.s8 m) ⟨b,e,none⟩ n cap xs E V (λi u a1=>?_) H cw Y Z S.fr.size _ ae λg B w' f N s _=>C _ w' ?_;rw[show(⟨b,e,none⟩:Addr).add i=⟨b,e+i,none⟩ from by grind[Addr.add],cell_of_row w b _ F T G U];grind;exact S.grow m N f ae s
def apQ(S:St w0 d l L O X w)(j:Nat)(f:O[j]?=some o){t:dC}(k:a.eval q=o.v)(s:a.eval r=v)(R:cK w T o.z v n xs)(m:vT P t o.e o.z by')(b:∀u∈xs,u.oneCell'=true)(i:(o.n+n)*by'<=140737488355328)(g:o.n+n<=maxLen)(h:∀ao c W,St w0 d l L (O.set j ⟨o.e,o.z,.slice ao (o.n+n) c,o.n+n,o.xs++xs⟩) X W->wpList P ops Q rest (a.put (some dst) (.slice ao (o.n+n) c)) W):
 wpList P ops Q (⟨some dst,.call {callee:=.builtin .append,args:=#[q,r],argTypes:=#[t,t]},t2,p,af,none⟩::rest) a w:=
 lF ae λ_ e=>aca S j f k s R m b i g λao c W hS=>e _ _ (h ao c W hS)
def agA(dst y:Nat)(h:wpList P ops Q (⟨some dst,.call {callee:=.builtin .append,args:=#[.const (.slice none 0 0),.tmp y],argTypes:=ts},t2,p,af,none⟩::rest) a w):wpList P ops Q (⟨some dst,.call {callee:=.builtin .append,args:=#[.const (.slice none 0 0),.tmp y],argTypes:=ts},t2,p,af,none⟩::rest) a w:=h
end
def aeP:(prog.info? 109).map (·.size)=some 11:=cX
def tf:jF prog 109 11:=⟨⟨_,underlying109,ae⟩,aeP⟩
instance in836a7 :rB 109 11:=⟨tf⟩
def mb:dg:=⟨⟨0,qz,false,0,0,0,0,cH,[]⟩,none,0⟩
def oB:(#[.int .u64 0,.string ⟨#[]⟩,.bool false,.int .u64 0,.int .u64 0,.int .u64 0,.int .i64 0,.int .i64 0,.int .u64 0,.int .u32 0,.slice none 0 0]:fJ)=ct 11 (gq mb):=rfl
instance in56d2a :ZR 109 11 (gq mb):=⟨_,wx,oB⟩
def rZ:kB prog 4:=⟨⟨_,underlying4,ae⟩,cX⟩
instance in6230a :pS 4:=⟨rZ⟩
def ET:kB prog 9:=⟨⟨_,xP,ae⟩,cX⟩
instance inf54d0 :pS 9:=⟨ET⟩
def dg.SP(x:dg)(ao:Option Addr)(c:Nat):dg:=⟨x.tocR,ao,c⟩
section
attribute[local irreducible]wpList Code.wp Calls Oper.wp wpAnyH
def SQ(x:dg)(A:fJ)(a:A=ct 11 (gq x))(f:x.cO.length<=1000000)(w:cB)(R:xW w x):
 CP_ 115 #[.agg A] w λe w'=>∃(B:fJ)(ao:Option Addr)(c:Nat),e=.returned (.agg B)/\B=ct 11 (gq (x.SP ao c))/\gg w' w.heap.size (x.SP ao c).dv x.cO/\dz w w':=by have d:=cq a;have S:=(pF w).Hi 106 3 ae ae;clear a;go_enter func115,ntmps115;go_wp2_with first|((with_reducible refine agA 5 4 ?_);refine apQ S 0 ae ae ae (R.cx S.b) fU (nG _) Br wR λao c W S=>?_;rw[show(0+x.cO.length)=x.cO.length from ou _] at S|-;rw[show([]++gY x.cO)=gY x.cO from ae] at S)|((with_reducible refine uV 107 6 5 ?_);refine vU S 1 ae 10 (gq (x.SP ao c)) (λj b=>by have b:j<11:=b;rcases j with(_|_|_|_|_|_|_|_|_|_|_|j)<;>first|rfl|omega) pR ae ae ae nk λW S=>?_;have⟨B,HB⟩:=xm (ct 11 (gq (x.SP ao c))))|(refine lC ?_;exact⟨_,_,_,ae,ae,S.o0,S.b⟩)|refine eR ?_|refine ey λW S=>?_
def kQ(X:cD->cB->Prop):Prop:=∀B w w' b,X B w->iU b w w'->gx w b=none->X B w'
theorem kQ.t:kQ (λ_ _=>True):=λ_ _ _ _ _ _ _=>gI
def kQ.and(h:kQ X)(g:kQ Y):kQ (λB w=>X B w/\Y B w):=λ_ _ _ _ c a b=>⟨h _ _ _ _ c.1 a b,g _ _ _ _ c.2 a b⟩
theorem kQ.pl(P D M:Nat)(s:Pl):kQ (Bq P D M s):=λ_ _ _ _ h b a=>by have h:ej _ P D M s:=h;have⟨l,hl⟩:=h.dev.open;refine h.agl b hl (λc=>?_) (λe=>?_) λe=>?_;obtain⟨u,d,_⟩:=hl.ty _ c;grind;rw[e,h.tyP] at a;cases a;rw[e,h.tyM] at a;cases a
theorem FM{w:cB}{b:Nat}{o:Obj}(h:w.heap[b]?=some o)(hc:o.isCells=false):gx w b=none:=by grind[gx,Obj.isCells]
theorem St.obj(S:St w0 d l L O X w)(a:iU b w w')(u:gx w b=none)(n:w0.heap.size<=b)(q:kQ X):St w0 d l L O X w':=by
 have c:∀k t,gx w k=some t->k≠b:=λk t h e=>by grind
 have v:∀D,d=some D->w'.heap[D]?=w.heap[D]?:=λD e=>a.block D (gr (S.UG D e)) (c _ _ (S.UG D e));refine⟨S.fr.PF n a,λr s=>?_,λo ho=>?_,S.lo,S.nd,q _ _ _ _ S.x a u,S.k8⟩;have i:=S.row r s;exact⟨cu.but i.1 a (c _ _ (cu.ty i.1)),i.2.1,i.2.2.imp id λf D e=>by grind[qT]⟩;have j:=S.own o ho;refine⟨pL j.1 (λe=>?_) a,j.2⟩;rcases j.1.2 with⟨p,_⟩|⟨g,cap,m,p,_,x,_⟩<;>grind[Value.ownBlock,gx]
def tg(a:w.grownBy w' (some b)):iU b w w':=⟨a.os,a.tape,a.output,a.size,λk d c=>a.block k d (λe=>c (by cases e;rfl))⟩
def xX(a:w.grownBy w' none):dz w w':=⟨a.os,a.tape,a.output,a.size,λk b=>a.block k b (λe=>by cases e)⟩
def qB{γ:Type}{B:Nat}(b:w0.heap.size<=B)(p:β->γ->Prop)(L:β->γ->List R4)(O:β->γ->List O4)(X:β->γ->cD->cB->Prop)(c:∀s y,kQ (X s y)):
 OwnFrom B (λs W=>∃y,p s y/\St w0 d l (L s y) (O s y) (X s y) W):=by rintro s W g row ⟨y,e,S⟩ a f;refine⟨y,e,?_⟩;cases row with|none=>exact S.cx (xX a)|some r=>have⟨hB,o,ho,hc⟩:=f r ae;exact S.obj (tg a) (FM ho hc) (gO b hB) (c s y)
structure me(bs:cD)(W W':cB):Prop where
 cx:Below 0 W W'
 same:∀k∈bs,W'.heap[k]?=W.heap[k]?
theorem me.trans{bs:cD}{A B C:cB}(h:me bs A B)(k:me bs B C):me bs A C:=⟨h.cx.trans k.cx,λi hi=>(k.same i hi).trans (h.same i hi)⟩
theorem me.refl(bs:cD)(W:cB):me bs W W:=⟨fO _ _,λ_ _=>ae⟩
def me.wA(c:∀k∈bs,k<n)(W:cB)(l:Nat)(o o':Obj)(b:n<=l)(_:W.heap[l]?=some o)(_:o.isCells=false)(_:o.isWalk=false):me bs W (W.putObj l o'):=
 ⟨⟨ae,ae,ae,by simp,λk a=>absurd a (u' _)⟩,λk a=>World.putObj_heap_other iG⟩
def Rr(bs:cD):cD->cB->Prop:=λB w=>∀k∈bs,k∉B/\∃t,gx w k=some t/\kO t=false/\fT t=false
def SR{t:dC}(h:gx w k=some t)(a:dz w w'):gx w' k=some t:=by rw[uO (a.block k (gr h))];exact h
theorem XE{d:Option Nat}{l:cD}{w w':cB}{k:Nat}{t:dC}(f:Fr d l w w')(h:gx w k=some t)(a:kO t=false)(b:fT t=false):w'.heap[k]?=w.heap[k]?:=
 f.block k (gr h) (by
  grind[Oa])
theorem jM(bs:cD):tS (Rr bs):=
 ⟨λh g k a=>⟨(h k a).1,let⟨t,c,h2⟩:=(h k a).2;⟨t,SR c g,h2⟩⟩,
  fun {B w b} h g k a=>⟨λd=>by
   rcases ib.1 d with e|d
   . obtain⟨_,t,c,_⟩:=h k a;have:=gr c;omega
   . exact(h k a).1 d,(h k a).2⟩,
  λh d k a=>⟨λi=>(h k a).1 (d k i),(h k a).2⟩,
  fun {B w w' b} h hB g k a=>⟨(h k a).1,let⟨t,c,h2⟩:=(h k a).2;⟨t,by rw[uO (g.block k (gr c) (λe=>(h k a).1 (e▸hB)))];exact c,h2⟩⟩,
  λh f k a=>⟨(h k a).1,let⟨t,c,h2,h3⟩:=(h k a).2;⟨t,by grind[uO,XE],h2,h3⟩⟩⟩
theorem kQ.av(bs:cD):kQ (Rr bs):=λ_ _ _ _ h b c k a=>⟨(h k a).1,let⟨t,h1,h2⟩:=(h k a).2;⟨t,by rw[uO (b.block k (gr h1) (λe=>by grind))];exact h1,h2⟩⟩
def KD(bs:cD)(W:cB):cD->cB->Prop:=λB w=>Rr bs B w/\KeepsOthers W w/\me bs W w
def FN(a:dz w w'):KeepsOthers w w':=⟨a.size,λk o b _=>(a.block k (qj.1 b).1).trans b⟩
theorem JH{t:dC}(a:iU b w w')(d:gx w b=some t):KeepsOthers w w':=
 ⟨a.size,λk o c ho=>(a.block k (qj.1 c).1 (λe=>by grind[FM])).trans c⟩
theorem K8(f:Fr d l w w'):KeepsOthers w w':=
 ⟨f.size,λk o a ho=>(f.block k (qj.1 a).1 (λ⟨t,h,_⟩=>by grind[FM])).trans a⟩
def FO(a:dz w w'):Below 0 w w':=a.mono (fN _)
def VM(a:iU b w w'):Below 0 w w':=⟨a.os,a.tape,a.output,a.size,λk c=>absurd c (u' _)⟩
def Zk(f:Fr d l w w'):Below 0 w w':=⟨f.os,f.tape,f.output,f.size,λk a=>absurd a (u' _)⟩
def EU(h:me bs W w)(a:Below 0 w w')(b:∀k∈bs,w'.heap[k]?=w.heap[k]?):me bs W w':=h.trans ⟨a,b⟩
theorem kK.fV(bs:cD)(W:cB)(h:kK d X):kK d (λB w=>X B w/\KD bs W B w):=
 ⟨fun {B w w'} a c=>⟨h.cx a.1 c,(jM bs).cx a.2.1 c,a.2.2.1.trans (FN c),EU a.2.2.2 (FO c) λk f=>c.block k (let⟨_,h1,_⟩:=(a.2.1 k f).2;gr h1)⟩,
  λa c=>⟨h.add a.1 c,(jM bs).add a.2.1 c,a.2.2⟩,
  λa g=>⟨h.mono a.1 g,(jM bs).mono a.2.1 g,a.2.2⟩,
  fun {B w w' b t} a hB c ht h1 h2=>⟨h.but a.1 hB c ht h1 h2,(jM bs).but a.2.1 hB c,a.2.2.1.trans (JH c ht),EU a.2.2.2 (VM c) λk f=>c.block k (let⟨_,h1,_⟩:=(a.2.1 k f).2;gr h1) (λe=>(a.2.1 k f).1 (e▸hB))⟩,
  λa e=>h.dev a.1 e⟩
def FP(h:KD bs W B w)(f:Fr d l w w'):KD bs W B w':=
 ⟨(jM bs).fr h.1 f,h.2.1.trans (K8 f),EU h.2.2 (Zk f) λk a=>let⟨_,h1,h2,h3⟩:=(h.1 k a).2;XE f h1 h2 h3⟩
theorem St.fV(S:St w0 d l L O (λB w=>X B w/\Rr bs B w) w):St w0 d l L O (λB W=>(X B W/\Rr bs B W)/\KD bs w B W) w:=
 ⟨S.fr,S.row,S.own,S.lo,S.nd,⟨S.x,S.x.2,KeepsOthers.refl _,me.refl _ _⟩,kK.fV bs w S.k8⟩
def St.kept(S:St w0 d l L O (λB w=>X B w/\KD bs W B w) w)(a:kK d X):KeepsOthers W w/\me bs W w/\St w0 d l L O X w:=
 ⟨S.x.2.2.1,S.x.2.2.2,S.fr,S.row,S.own,S.lo,S.nd,S.x.1,a⟩
def St.SU(S:St w0 d l L O X w)(e:dz w w')(h:∀k∈bs,(w.heap.size<=k∨k<w0.heap.size)/\∃t,gx w' k=some t/\kO t=false/\fT t=false):St w0 d l L O (λB w=>X B w/\Rr bs B w) w':=by have a:=S.cx e;refine⟨a.fr,a.row,a.own,a.lo,a.nd,⟨a.x,λk b=>⟨λc=>?_,(h k b).2⟩⟩,a.k8.still (jM bs)⟩;rcases(h k b).1 with h1|h1;have:=S.lt k c;omega;have:=S.lo k c;omega
def dE(s:cR):Nat×fh:=if s.cW=true then(s.cG,s.name) else(0,s.name)
def rj(c:Nat×fh):Nat->cI:=λi=>if i=0 then .int .u64 c.1 else .string c.2
def Ou(c:Nat×fh):∀i,(rj c i).oneCell'=true:=by intro i;unfold rj;split<;>rfl
instance ina6fa9(x:Nat×fh):OF (rj x):=⟨Ou x⟩
theorem B5(c:Nat×fh):ct 2 (rj c)=#[.int .u64 c.1,.string c.2]:=rfl
def aeQ:(#[.int .u64 0,.string ⟨#[]⟩]:fJ)=ct 2 (rj (0,qz)):=rfl
instance in3a7d0 :ZR 258 2 (rj (0,qz)):=⟨_,zeroValue258,aeQ⟩
def afV:jF prog 258 2:=⟨⟨_,underlying258,ae⟩,cX⟩
instance ina5a31 :rB 258 2:=⟨afV⟩
theorem agB(c d:Nat×fh)(r:Bool)(h:decide (c=d)=r)(w:cB):(binOp .eql 258 (.agg #[.int .u64 c.1,.string c.2]) (.agg #[.int .u64 d.1,.string d.2])).run prog w=.ok (.bool r) w:=by
 have k:(Op.equal 258 (.agg #[.int .u64 c.1,.string c.2]) (.agg #[.int .u64 d.1,.string d.2])).run prog w=.ok r w:=by
  unfold Op.equal Op.maxDepth;rw[run_equalIn_struct (P:=prog) w 9999 258 _ _ cX cX];obtain⟨l,f⟩:∃p,(prog.fieldsOf 258).toList=[⟨ "owner",82,0,false, "",p,0⟩,⟨ "name",9,1,false, "",p,8⟩]:=⟨(prog.fieldsOf 258)[0]!.pkgPath,cX⟩;rw[f];simp[Op.eqFields,part,isAgg82,isAgg9,Result.andThen,G3 w 9998 82 .u64 .u64 _ _ underlying82,run_equalIn_string w 9998 9 _ _ xP];rw[<-h];have⟨a,s⟩:=c;have⟨b,t⟩:=d;simp only;have g:s.toList=t.toList↔s=t:=by rw[BZ,BZ];exact⟨λe=>by have⟨⟨x⟩⟩:=s;simp_all,λe=>by rw[e]⟩
  by_cases i:a=b;by_cases j:s=t<;>simp_all;have:¬((a:Int)=(b:Int)):=cw;simp_all
 simp_all[binOp]
def La(b o:Nat)(x:dg)(w:cB)(h:my w b o x):rF 199 #[.pointer (some ⟨b,o,none⟩)] w (.agg (ct 2 (rj (dE x.tocR)))):=by
 have R:=cq h;clear h;have S:=pF w;cases a:x.cW with
 |true=>
  have hc:dE x.tocR=(x.cG,x.name):=by unfold dE;rw[cL a]
  rw[hc];have c:Value.bool x.cW=.bool true:=by rw[a]
  have d:=cq c;have⟨A,HA⟩:=xm (ct 2 (rj (x.cG,x.name)));clear a hc c;go_enter func199,ntmps199;go_upto_region 2 with(first|(refine iB (R.o.cx S.b).c2 ae rZ ?_;rw[d.o])|refine ey λW S=>?_);refine AA S cX λW S=>?_;refine cJ 0 _ ?_;refine cJ 1 (cZ b o) ?_;refine cJ 2 (cZ b (o+3)) ?_;refine fW 3 (.int .u64 x.cG) ae (fR (λw h=>by obtain⟨_,_,_,S⟩:=h;exact(R.o.cx S.b).c3) ae fg) ?_;refine cJ 4 _ ?_;refine cJ 5 (cZ b o) ?_;refine cJ 6 (cZ b (o+1)) ?_;refine fW 7 (.string x.name) ae (fR (λw h=>by obtain⟨_,_,_,S⟩:=h;exact(R.o.cx S.b).c1) ae ET) ?_;refine fW 8 (.agg A) ae (xO ae ako) ?_;refine jQ 9 λK e=>?_;refine ju S 0 ae ae ae HA.o afV (Ou _) λW S=>?_;refine fC e ?_;refine pz ?_;go_wp2_with (refine lC ?_;exact aw)
 |false=>
  have hc:dE x.tocR=(0,x.name):=by unfold dE;rw[cM (by rw[a];simp)]
  rw[hc];have c:Value.bool x.cW=.bool false:=by rw[a]
  have d:=cq c;have⟨A,HA⟩:=xm (ct 2 (rj (0,x.name)));clear a hc c;go_enter func199,ntmps199;go_wp2_with first|refine jo 19 9 18 (R.o.cx S.b).c1 ?_|(refine iB (R.o.cx S.b).c2 ae rZ ?_;rw[d.o])|refine kC (cells:=A) ae ako ?_|(refine lC ?_;exact aw)|refine ey λW S=>?_
def qC(l:List cR)(c:Nat×fh):Option Nat:=l.findIdx? λx=>decide (dE x=c)
def I0(l:List dg)(v:cI)(c:Nat×fh)(A:fJ)(u:A=ct 2 (rj c))(L:l.length<=1000000)(w:cB)(R:fE w v l):rF 164 #[v,.agg A] w (.int .i64 (kE (qC (dJ l) c))):=by
 obtain⟨ao,cap,rfl,z,e⟩:=du R.1;have C:=cq u;clear u;have S:=pF w;go_enter func164,ntmps164;go_upto_region 2 with(refine ey λW S=>?_);have S:=cq S;go_loopw [8] (λi wr=>∃k:Nat,k<=l.length/\i=.int .i64 k/\Hid ((∀(j:Nat)y,(dJ l)[j]?=some y->j<k->decide (dE y=c)=false)/\St w none [] [⟨w.heap.size,258,2,rj c⟩] [] (λ_ _=>True) wr)) (λi _=>l.length-(intOf i).toNat);exact bT;clear S;obtain⟨k,J,rfl,hS⟩:=hrel;by_cases g:k<l.length
 . obtain⟨b,o,rfl⟩:=e cw;obtain⟨x,n⟩:∃x,l[k]?=some x:=⟨_,iz g⟩;have⟨hold,S⟩:=hS.o;clear hS;have d:=cq λW(G:dz w W)=>La b (o+k*11) x W ((R.cx G).at n);have t:=cq n;have⟨D,HD⟩:=q8 (dE x.tocR);rw[HD.o] at d;have⟨r,hr⟩:=c8 (decide (D=c));have a:=agB D c r hr;rw[<-B5,<-B5] at a;have⟨B,hB⟩:=eW (ct 2 (rj D));rw[<-hB] at a d;rw[<-C.o] at a;have E:=cq a;have q:=cq hold;have s:=cq hr;clear n a hold hr hB;go_wp2;refine dL S cX λW S=>?_;refine cJ 0 _ ?_;refine cJ 1 _ ?_;refine cJ 2 (cZ b (o+k*11)) ?_;refine cJ 4 (.agg A) ?_;refine jQ 3 λK F=>?_;go_wp2_with fail;refine je S (d.o _ S.b) λW S=>?_;refine fC F ?_;refine fW 5 (.bool r) ae (Or.inl ⟨cX,λw M=>by have H:=E.o;go_simp⟩) ?_;refine pz ?_;cases r with|true=>go_wp2;go_ret;have m:qC (dJ l) c=some k:=AH (by rw[l9,t.o];rfl) (by rw[HD.o];exact s.o) q.o;exact⟨by rw[m];rfl,S.b⟩|false=>go_wp2;go_roundw;refine⟨k+1,cw,by go_num,cq ⟨λj y p I=>?_,S⟩⟩;by_cases f:j=k;subst f;rw[l9,t.o] at p;cases p;rw[HD.o];exact s.o;exact q.o j y p cw;exact oV
 . obtain rfl:k=l.length:=cw;go_wp2;go_ret;have m:qC (dJ l) c=none:=AI (by rw[gj];exact hS.o.1);exact⟨by rw[m];rfl,hS.o.2.fr.cx⟩
def abX:prog.built 109 []=some #[.int .u64 0,.string ⟨#[]⟩,.bool false,.int .u64 0,.int .u64 0,.int .u64 0,.int .i64 0,.int .i64 0,.int .u64 0,.int .u32 0,.slice none 0 0]:=cX
def nC:cR:=mb.tocR
def di(l:List cR)(k:Nat):cR:=l.getD k nC
def Ov(l:List cR):Option Nat->cR
 |none=>nC
 |some k=>di l k
theorem kF{l:List dg}{k:Nat}{x:dg}(a:l[k]?=some x):di (dJ l) k=x.tocR:=by grind[di,l9]
theorem jU{l:List dg}{id k:Nat}(h:eu (dJ l) id=some k):k<l.length/\∃x,l[k]?=some x/\x.id=id:=by have⟨x,hx,hp⟩:=IZ h;rw[l9] at hx;grind
theorem Lb{l:List dg}{c:Nat×fh}(h:qC (dJ l) c=some k):k<l.length/\∃x,l[k]?=some x/\dE x.tocR=c:=by have⟨x,hx,hp⟩:=IZ h;rw[l9] at hx;grind
def xY(w':cB)(base:Nat)(B:fJ)(t:cR):Prop:=∃y:dg,B=ct 11 (gq y)/\y.tocR=t/\gg w' base y.dv y.cO
def qX(w:cB)(base:Nat):xY w base (ct 11 (gq mb)) nC:=⟨mb,ae,ae,gg.nil _ _⟩
def oZ(x:dg)(A:fJ)(a:A=ct 11 (gq x))(b:x.cO.length<=1000000)(w:cB)(R:xW w x):
 CP_ 115 #[.agg A] w λe w'=>∃(B:fJ)(y:dg),e=.returned (.agg B)/\B=ct 11 (gq y)/\(y.tocR=x.tocR/\gg w' w.heap.size y.dv y.cO)/\dz w w':=
 (SQ x A a b w R).mono λe w' h=>by
  have⟨B,ao,c,h1,h2,h3,h4⟩:=h;exact⟨B,x.SP ao c,h1,h2,⟨ae,h3⟩,h4⟩
def ahY(s:List cR):Prop:=∀t∈s,t.cO.length<=1000000/\t.name.size<=1000
def qe(l:List dg):Prop:=ahY (dJ l)
theorem qe.at{l:List dg}(h:qe l){x:dg}(a:x∈l):x.cO.length<=1000000/\x.name.size<=1000:=h x.tocR (fM.2 ⟨x,a,ae⟩)
def I1(l:List dg)(v:cI)(id:Nat)(u:l.length<=1000000)(t:qe l)(w:cB)(R:fE w v l):CP_ 160 #[v,.int .u64 id] w λe w'=>∃B,e=.returned (.tuple #[.agg B,.bool (eu (dJ l) id).isSome])/\xY w' w.heap.size B (Ov (dJ l) (eu (dJ l) id))/\dz w w':=by
 obtain⟨ao,cap,rfl,n,h⟩:=du R.1;have R:=cq R;have c:=cq λW(a:dz w W)=>si l _ id u W (R.o.cx a);have S:=pF w;rcases hp:eu (dJ l) id with _|k;rw[hp] at c;simp only[kE] at c;clear hp;rotate_left;rw[hp] at c;simp only[kE] at c;obtain⟨C,x,g,-⟩:=jU hp;clear hp;obtain⟨b,o,rfl⟩:=h cw;have⟨hi,hxx⟩:=mQ.1 g;have⟨A,hA⟩:=eW (ct 11 (gq x));have f:=cq (mu l hi (A:=A) akx);have j:=cq hA;have i:=kt g;have p:=cq λW(a:dz w W)=>oZ x A j.o (t.at i).1 W ((R.o.cx a).2 x i);have q:=cq (kF g);clear hA hxx i g
 all_goals
  go_enter func160,ntmps160
  go_wp2_with first|refine je S (c.o _ S.b) λW S=>?_|(refine(p.o _ S.b).mono ?_;rintro e W ⟨B,y,rfl,m,d,a⟩;have z:=cq m;replace d:=d;have s:=S;replace S:=S.gm a d.2 ae ae;have r:=cq d.1;clear a m d s)|refine Bf (R.o.cx S.b).1 hi (tL j) f.o ?_|refine eR ?_|refine ey λW S=>?_|(refine lC ?_;exact⟨_,ae,qX _ _,S.b⟩)|(refine lC ?_;exact⟨_,ae,⟨y,ae,r.o.trans q.o.symm,S.o0⟩,S.b⟩)
def mF(l:List cR)(cC:fh):Option Nat×Int:=
 match dG cC with
 |none=>(none,141)
 |some (jA,cW)=>match qC l (0,jA) with
  |none=>(none,161)
  |some i=>if cW=qz then(some i,0) else match qC l ((di l i).id,cW) with
   |none=>(none,161)
   |some j=>(some j,0)
def FQ(l:List dg)(v:cI)(cC:fh)(N:cC.size<=140737488355328)(L:l.length<=1000000)(K:qe l)(w:cB)(R:fE w v l):CP_ 107 #[v,.string cC] w λe w'=>∃B,e=.returned (.tuple #[.agg B,.int .i64 (mF (dJ l) cC).2])/\xY w' w.heap.size B (Ov (dJ l) (mF (dJ l) cC).1)/\dz w w':=by
 obtain⟨ao,cap,rfl,J,E⟩:=du R.1;have R:=cq R;have m:=cq (rM cC N);have S:=pF w;rcases hn:dG cC with _|p;have h:Hid (mF (dJ l) cC=(none,141)):=cq (by unfold mF;rw[hn]);rw[hn] at m;clear hn;rotate_left;have⟨jA,cW⟩:=p;rw[hn] at m;have⟨A1,hA1⟩:=eW (ct 2 (rj (0,jA)));have f:=cq λW(a:dz w W)=>I0 l _ (0,jA) A1 hA1 L W (R.o.cx a);have t:=cq hA1;clear hA1;rcases h1:qC (dJ l) (0,jA) with _|i;have h:Hid (mF (dJ l) cC=(none,161)):=cq (by unfold mF;rw[hn];simp only[h1]);rw[h1] at f;simp only[kE] at f;clear hn h1;rotate_left;rw[h1] at f;simp only[kE] at f;obtain⟨hi,x,s,-⟩:=Lb h1;have q:=kF s;have O:(0:Int)<=(i:Int):=Int.natCast_nonneg i;have Q:¬((i:Int)<0):=cw;obtain⟨b,o,rfl⟩:=E cw;have z:=cq s;by_cases r:cW=qz;have h:Hid (mF (dJ l) cC=(some i,0)):=cq akz;have⟨hi9,hxx⟩:=mQ.1 z.o;have⟨A,hA⟩:=eW (ct 11 (gq x));have c:=cq (mu l hi9 (A:=A) akx);have n:=cq hA;have d:=kt z.o;have F:=cq λW(a:dz w W)=>oZ x A n.o (K.at d).1 W ((R.o.cx a).2 x d);have G:=cq q;clear hA q hxx d;subst r;unfold qz at m;clear hn h1;rotate_left;have X:=zE r;have⟨A2,hA2⟩:=eW (ct 2 (rj (x.id,cW)));have g:=cq λW(a:dz w W)=>I0 l _ (x.id,cW) A2 hA2 L W (R.o.cx a);have u:=cq hA2;clear hA2;rcases h2:qC (dJ l) (x.id,cW) with _|j;have h:Hid (mF (dJ l) cC=(none,161)):=cq akz;rw[h2] at g;simp only[kE] at g;clear hn h1 h2 r q s;rotate_left;have h:Hid (mF (dJ l) cC=(some j,0)):=cq akz;rw[h2] at g;simp only[kE] at g;obtain⟨Y,y,M,-⟩:=Lb h2;have k:=kF M;have T:¬((j:Int)<0):=cw;have H:=cq M;clear s;have⟨hi9,hxx⟩:=mQ.1 H.o;have⟨A,hA⟩:=eW (ct 11 (gq y));have c:=cq (mu l hi9 (A:=A) akx);have n:=cq hA;have d:=kt H.o;have F:=cq λW(a:dz w W)=>oZ y A n.o (K.at d).1 W ((R.o.cx a).2 y d);have G:=cq k;clear hA k hxx d;clear hn h1 h2 r q
 all_goals
  rw[h.o];go_enter func107,ntmps107
  go_wp2_with first|(go_at_call_has 164 A1;refine je S (f.o _ S.b) λW S=>?_)|(go_at_call_has 164 A2;refine je S (g.o _ S.b) λW S=>?_)|refine je S (m.o _) λW S=>?_|((with_reducible refine Ay 22 258 ?_);refine kC (cells:=A1) ae (by rw[t.o];kernel_rfl) ?_)|refine je S (f.o _ S.b) λW S=>?_|(refine(F.o _ S.b).mono ?_;rintro e W ⟨B,U,rfl,I,D,a⟩;have V:=cq I;replace S:=S.gm a D.2 ae ae;have C:=cq D.1;clear a I D)|refine jo 35 82 34 ((R.o.cx S.b).at z.o).c0 ?_|((with_reducible refine Ay 37 258 ?_);refine kC (cells:=A2) ae (by rw[u.o];kernel_rfl) ?_)|refine Bf (R.o.cx S.b).1 hi9 (tL n) c.o ?_|refine eR ?_|refine ey λW S=>?_|(refine lC ?_;exact⟨_,ae,qX _ _,S.b⟩)|(refine lC ?_;exact⟨_,ae,⟨U,ae,C.o.trans G.o.symm,S.o0⟩,S.b⟩)
def eM(l:List cR)(id:Nat):Nat:=
 match eu l id with
 |none=>0
 |some i=>if(di l i).cT=0 then 0 else match eu l (di l i).cT with
  |none=>0
  |some j=>(di l j).cA
def Dg(l:List dg)(v:cI)(id:Nat)(B:l.length<=1000000)(w:cB)(R:fE w v l):rF 114 #[v,.int .u64 id] w (.int .u64 (eM (dJ l) id:Nat)):=by
 obtain⟨ao,cap,rfl,s,n⟩:=du R.1;have R:=cq R;have a:=cq λ(id:Nat)W(u:dz w W)=>si l _ id B W (R.o.cx u);have S:=pF w;cases c:eu (dJ l) id with
 |none=>have f:Hid (eM (dJ l) id=0):=cq (by unfold eM;rw[c]);have a:=cq (a.o id);rw[c] at a;simp only[kE] at a;clear c;go_enter func114,ntmps114;go_wp2_with (refine je S (a.o _ S.b) λW S=>?_);go_ret;exact bM
 |some i=>
  obtain⟨hi,x,k,-⟩:=jU c;have h:=kF k;obtain⟨b,o,rfl⟩:=n cw;have z:¬((i:Int)<0):=cw;have m:=cq (a.o id);rw[c] at m;simp only[kE] at m;have r:=cq k;have⟨pv,hpv⟩:=c8 x.cT;have q:Hid (Value.int .u64 x.cT=.int .u64 pv):=cq (by rw[hpv]);by_cases g:pv=0;have f:Hid (eM (dJ l) id=0):=cq (by unfold eM;rw[c];simp only[h];rw[cL (hpv.trans g)]);subst g;clear c k h hpv a;rotate_left;have C:((pv:Int)==0)=false:=by rw[lx];omega
  have e:=cq (a.o pv);have d:eM (dJ l) id=match eu (dJ l) pv with|none=>0|some j=>(di (dJ l) j).cA:=by unfold eM;rw[c];simp only[h];rw[cM (by rw[hpv];exact g),hpv]
  rcases hp2:eu (dJ l) pv with _|j;rw[hp2] at d e;simp only[kE] at e;have f:Hid (eM (dJ l) id=0):=cq d;clear c k h hpv a d hp2 g;rotate_left;rw[hp2] at d e;simp only[kE] at e;obtain⟨D,y,p,-⟩:=jU hp2;have A:¬((j:Int)<0):=cw;simp only[kF p] at d;have f:Hid (eM (dJ l) id=y.cA):=cq d;have t:=cq p;clear c k h hpv a d hp2 g p
  all_goals
   go_enter func114,ntmps114
   go_wp2_with first|(go_at_call_has 103 (Value.int .u64 id);refine je S (m.o _ S.b) λW S=>?_)|(go_at_call_has 103 (Value.int .u64 pv);refine je S (e.o _ S.b) λW S=>?_)|refine je S (m.o _ S.b) λW S=>?_|(refine lh cX<|iB ((R.o.cx S.b).at r.o).c4 ae fg ?_;rw[q.o])|(refine iB ((R.o.cx S.b).at r.o).c4 ae fg ?_;rw[q.o])|refine jo 32 82 31 ((R.o.cx S.b).at t.o).c5 ?_
   go_ret;exact bM
def qf(l:List cR)(id:Nat):fh:=
 match eu l id with
 |none=>qz
 |some i=>if(di l i).cW=false then kD (di l i).name qz else match eu l (di l i).cG with
  |none=>qz
  |some j=>kD (di l j).name (di l i).name
def acb(l:List dg)(v:cI)(id:Nat)(F:l.length<=1000000)(C:qe l)(w:cB)(R:fE w v l):rF 44 #[v,.int .u64 id] w (.string (qf (dJ l) id)):=by
 obtain⟨ao,cap,rfl,t,q⟩:=du R.1;have R:=cq R;have a:=cq λ(id:Nat)W(B:dz w W)=>si l _ id F W (R.o.cx B);have S:=pF w;cases c:eu (dJ l) id with
 |none=>have f:Hid (qf (dJ l) id=qz):=cq (by unfold qf;rw[c]);have a:=cq (a.o id);rw[c] at a;simp only[kE] at a;clear c;go_enter func44,ntmps44;go_wp2_with (refine je S (a.o _ S.b) λW S=>?_);go_ret;exact bM
 |some i=>
  obtain⟨hi,x,k,-⟩:=jU c;have n:=kF k;obtain⟨b,o,rfl⟩:=q cw;have D:¬((i:Int)<0):=cw;have m:=cq (a.o id);rw[c] at m;simp only[kE] at m;have g:=cq k;rcases hs:x.cW with _|_;have p:Hid (Value.bool x.cW=.bool false):=cq (by rw[hs]);have f:Hid (qf (dJ l) id=kD x.name qz):=cq (by unfold qf;rw[c];simp only[n];rw[cL hs]);have d:=cq (FK x.name qz jR);unfold qz at d;clear c k n a hs;rotate_left;have p:Hid (Value.bool x.cW=.bool true):=cq (by rw[hs]);have⟨ow,how⟩:=c8 x.cG;have s:Hid (Value.int .u64 x.cG=.int .u64 ow):=cq (by rw[how]);have d:=cq (a.o ow);have e:qf (dJ l) id=match eu (dJ l) ow with|none=>qz|some j=>kD (di (dJ l) j).name x.name:=by unfold qf;rw[c];simp only[n];rw[cM (by rw[hs];simp),how]
  rcases hp2:eu (dJ l) ow with _|j;rw[hp2] at e d;simp only[kE] at d;have f:Hid (qf (dJ l) id=qz):=cq e;clear c k n a hs e hp2 how;rotate_left
  . rw[hp2] at e d;simp only[kE] at d;obtain⟨G,y,r,-⟩:=jU hp2;have E:¬((j:Int)<0):=cw;simp only[kF r] at e;have u:=cq (FK y.name x.name (C.at (kt k)).2);have f:Hid (qf (dJ l) id=kD y.name x.name):=cq e;have z:=cq r;clear c k n a hs e hp2 how r;go_enter func44,ntmps44;go_upto_region 9 with(first|(go_at_call_has 103 (Value.int .u64 id);refine je S (m.o _ S.b) λW S=>?_)|(refine iB ((R.o.cx S.b).at g.o).c2 ae rZ ?_;rw[p.o])|(refine iB ((R.o.cx S.b).at g.o).c3 ae fg ?_;rw[s.o])|(go_at_call_has 103 (Value.int .u64 ow);refine je S (d.o _ S.b) λW S=>?_));refine dL S cX λW S=>?_;refine cJ 0 _ ?_;refine cJ 1 _ ?_;refine cJ 2 (cZ b (o+j*11)) ?_;refine cJ 3 (cZ b (o+j*11+1)) ?_;refine fW 4 (.string y.name) ae (fR (λw h=>by obtain⟨_,S⟩:=h;exact((R.o.cx S.b).at z.o).c1) ae ET) ?_;refine cJ 5 _ ?_;refine cJ 6 _ ?_;refine cJ 7 (cZ b (o+i*11)) ?_;refine cJ 8 (cZ b (o+i*11+1)) ?_;refine fW 9 (.string x.name) ae (fR (λw h=>by obtain⟨_,S⟩:=h;exact((R.o.cx S.b).at g.o).c1) ae ET) ?_;refine jQ 10 λK A=>?_;go_wp2_with fail;refine je S (u.o _) λW S=>?_;refine fC A ?_;refine cJ 11 _ ?_;refine pz ?_;go_wp2;go_ret;exact bM
  all_goals
   go_enter func44,ntmps44
   go_wp2_with first|(go_at_call_has 103 (Value.int .u64 id);refine je S (m.o _ S.b) λW S=>?_)|(go_at_call_has 103 (Value.int .u64 ow);refine je S (d.o _ S.b) λW S=>?_)|refine jo 22 9 21 ((R.o.cx S.b).at g.o).c1 ?_|refine je S (m.o _ S.b) λW S=>?_|(refine iB ((R.o.cx S.b).at g.o).c2 ae rZ ?_;rw[p.o])|refine je S (d.o _) λW S=>?_|(refine iB ((R.o.cx S.b).at g.o).c3 ae fg ?_;rw[s.o])
   go_ret;exact bM
def yG(l:List cR)(id:Nat):Nat->cD->Nat->cD×Nat
 |0,chain,cT=>(chain,cT)
 |f+1,chain,cT=>if cT=0 then(chain,cT) else match eu l cT with
  |none=>(chain,cT)
  |some i=>if(di l i).cG=id then yG l id f (chain++[cT]) (di l i).cT else(chain,cT)
def sJ(l:List cR)(id:Nat):cD×Nat:=
 match eu l id with
 |none=>([],0)
 |some i=>if(di l i).cW=true then([],0) else yG l id 32 [] (di l i).cT
theorem VN(l:List cR)(id f:Nat)(a:cD):yG l id f a 0=(a,0):=by cases f<;>simp[yG]
def JI(l:cD):List cI:=l.map λ(n:Nat)=>Value.int .u64 (n:Int)
def acd:vT prog 78 82 1 8:=⟨uk,_,yV,ae,cw⟩
def FR(k:IntKind)(l:List Int):∀i,(KZ k l i).oneCell'=true:=λ_=>ae
def XF(l:List dg)(v:cI)(id:Nat)(T:l.length<=1000000)(w:cB)(R:fE w v l):CP_ 105 #[v,.int .u64 id] w λe w'=>∃r,e=.returned (.tuple #[r,.int .u64 ((sJ (dJ l) id).2:Nat)])/\JC w' w.heap.size r (sJ (dJ l) id).1/\dz w w':=by
 obtain⟨ao,cap,rfl,J,F⟩:=du R.1;have R:=cq R;have k:=cq λ(id:Nat)W(N:dz w W)=>si l _ id T W (R.o.cx N);have S:=pF w;cases h:eu (dJ l) id with
 |none=>have m:Hid (sJ (dJ l) id=([],0)):=cq (by unfold sJ;rw[h]);have k:=cq (k.o id);rw[h] at k;simp only[kE] at k;clear h;rw[m.o];go_enter func105,ntmps105;go_wp2_with (refine je S (k.o _ S.b) λW S=>?_);go_ret2;exact aG
 |some i=>
  obtain⟨hi,x,A,-⟩:=jU h;have z:=kF A;obtain⟨b,o,rfl⟩:=F cw;have O:¬((i:Int)<0):=cw;have u:=cq (k.o id);rw[h] at u;simp only[kE] at u;have D:=cq A;cases t:x.cW with
  |true=>have B:Hid (Value.bool x.cW=.bool true):=cq (by rw[t]);have m:Hid (sJ (dJ l) id=([],0)):=cq (by unfold sJ;rw[h];simp only[z];rw[cL t]);clear h A z k t;rw[m.o];go_enter func105,ntmps105;go_wp2_with (first|refine je S (u.o _ S.b) λW S=>?_|(refine lh cX<|iB ((R.o.cx S.b).at D.o).c2 ae rZ ?_;rw[B.o]));go_ret2;exact aG
  |false=>
   have B:Hid (Value.bool x.cW=.bool false):=cq (by rw[t]);have m:Hid (yG (dJ l) id 32 [] x.cT=sJ (dJ l) id):=cq (by unfold sJ;rw[h];simp only[z];rw[cM (by rw[t];simp)]);have⟨WW,hWW⟩:=c8 (sJ (dJ l) id);rw[hWW] at m|-;clear h A z t hWW;go_enter func105,ntmps105;go_upto_region 6 with(first|refine jo 25 82 24 ((R.o.cx S.b).at D.o).c4 ?_|refine je S (u.o _ S.b) λW S=>?_|(refine lh cX<|iB ((R.o.cx S.b).at D.o).c2 ae rZ ?_;rw[B.o]));have S:=cq (S.Hi 82 1 ae ae);go_loopw [7,8] (λc p wr=>∃(d:cD)(cT f:Nat)(a:Option Addr)(q:Nat),d.length+f=32/\c=.slice a d.length q/\p=.int .u64 cT/\Hid (yG (dJ l) id f d cT=WW/\St w none [] [] [⟨82,1,.slice a d.length q,d.length,JI d⟩] (λ_ _=>True) wr)) (λc _ _=>match c with| .slice _ n _=>32-n|_=>0);exact⟨[],x.cT,32,none,0,ae,ae,ae,cq ⟨m.o,S.o⟩⟩;clear S m u;obtain⟨d,cT,f,a,q,V,rfl,rfl,hS⟩:=hrel;have⟨hgo,S⟩:=hS.o;clear hS;rcases z6 (cT=0) with rfl|h0
   . rw[VN] at hgo;subst hgo;go_wp2;go_ret2;exact bj
   . (have U:((cT:Int) !=0)=true:=by rw[eO];omega);rcases tZ f with rfl|hf0
     . subst hgo;have hc:¬((d.length:Int)<32):=cw;go_wp2;go_ret2;exact bj
     . obtain⟨f,rfl⟩:∃g,f=g+1:=⟨f-1,cw⟩;have hc:((d.length:Int)<32):=cw;have s:=cq (k.o cT);unfold yG at hgo;rw[cM h0] at hgo;rcases hp2:eu (dJ l) cT with _|j;rw[hp2] at hgo s;simp only[kE] at s;subst hgo;clear hp2;rotate_left;obtain⟨X,y,G,-⟩:=jU hp2;have Q:¬((j:Int)<0):=cw;rw[hp2] at hgo s;simp only[kE] at s;simp only[kF G] at hgo;have E:=cq G;have⟨H,how⟩:=c8 y.cG;have I:Hid (Value.int .u64 y.cG=.int .u64 H):=cq (by rw[how]);rw[how] at hgo;clear G hp2 how;rcases z6 (H=id) with rfl|hoi
       . rw[cL ae] at hgo;have C:=cq hgo;clear hgo;go_wp2_with (first|refine jo 55 82 54 ((R.o.cx S.b).at E.o).c4 ?_|refine je S (s.o _ S.b) λW S=>?_|(refine lh cX<|iB ((R.o.cx S.b).at E.o).c3 ae fg ?_;rw[I.o])|refine lK S .u64 [(cT:Int)] uk yV cw cw rfl rfl rfl λW S=>?_|refine rK S 0 rfl 0 rfl rfl rfl rfl acd (FR _ _) Br wR λM L W S=>?_);go_roundw;exact⟨d++[cT],y.cT,f,s_ M 0,L,by simp;omega,by simp,ae,cq ⟨C.o,by have S:=S.pop;unfold JI;rw[mI,ik];exact S⟩⟩;simp;omega
       (have K:((H:Int)!=(id:Int))=true:=by rw[eO];omega);rw[cM hoi] at hgo;subst hgo
       all_goals
        go_wp2_with first|refine je S (s.o _ S.b) λW S=>?_|(refine lh cX<|iB ((R.o.cx S.b).at E.o).c3 ae fg ?_;rw[I.o])
        go_ret2;exact bj
def Ow(l:List dg)(v:cI)(id:Nat)(c:l.length<=1000000)(w:cB)(R:fE w v l):CP_ 128 #[v,.int .u64 id] w λe w'=>∃r,e=.returned r/\JC w' w.heap.size r (sJ (dJ l) id).1/\dz w w':=by have a:=cq (XF l v id c w R);clear R;go_enter func128,ntmps128;go_wp2_with (refine a.o.mono ?_;rintro e W ⟨r,rfl,ho,b⟩);go_ret;exact⟨_,ae,ho,b⟩
def Ld(l:List dg)(v:cI)(id:Nat)(c:l.length<=1000000)(w:cB)(R:fE w v l):rF 45 #[v,.int .u64 id] w (.int .u64 ((sJ (dJ l) id).2:Nat)):=by have a:=cq (XF l v id c w R);clear R;go_enter func45,ntmps45;go_wp2_with (refine a.o.mono ?_;rintro e W ⟨r,rfl,ho,b⟩);go_ret;exact⟨ae,b⟩
end
section
variable {f:α->List β}
theorem Le(c:∀x,(f x).length=z)(l:List α)(o:k<l.length)(y:α){m:List β}(p:m.length=l.length*z)(n:∀j,j<z->m[k*z+j]?=(f y)[j]?)(d:∀i j,i≠k->j<z->m[i*z+j]?=(l.flatMap f)[i*z+j]?):m=(l.set k y).flatMap f:=by apply wm;intro t;by_cases h:t<l.length*z;rcases tZ z with rfl|hz;omega;(have e:t=t/z*z+t%z:=by grind[div_add_mod]);(have a:t%z<z:=mod_lt _ hz;have g:t/z<l.length:=by rw[div_lt_iff_lt_mul hz];exact h);rw[e,flat_get c (l.set k y) iG a];by_cases b:t/z=k;grind;rw[d _ _ b a,flat_get c l g a,getElem_set_ne (oU b)];grind[vw,length_set]
end
section
variable {x:Nat}
theorem zG(h:w.ownsRow base e z (.slice (some ⟨g,0,none⟩) n c) n xs):∃(m:Nat)(f:Nat->cI),cu w g e m f/\n*z<=m:=by rcases h.2 with⟨b,_⟩|⟨j,cap,a,b,k,d,l,o,h6,p⟩;cases b;simp only[kM,xk,Addr.mk.injEq] at b;obtain⟨⟨rfl,-,-⟩,-,rfl⟩:=b;refine⟨a.size,λi=>a.getD i undef,?_,by simp_all[GQ]⟩;unfold cu;rw[d];simp[ct]
theorem tj{w w':cB}{b:Nat}(h:iU b w w'):w.grownBy w' (some b):=⟨h.os,h.tape,h.output,h.size,λk a c=>h.block k a (λe=>c (by rw[e]))⟩
def ace(S:St w0 d l L O X w)(j:Nat)(s:O[j]?=some o)(e:o.v=.slice (some ⟨g,0,none⟩) o.n c)(i:Nat)(hi:i<o.n*o.z)(u:a.eval (.tmp x)=.pointer (some ⟨g,i,none⟩))(y:a.eval q=v)(k:v.oneCell'=true)(t:kB P ty)(h:∀W,St w0 d l L (O.set j ⟨o.e,o.z,o.v,o.n,o.xs.set i v⟩) X W->wpList P ops Q rest (a.put none undef) W):wpList P ops Q (⟨none,.store ty (.tmp x) q,t2,p,af,none⟩::rest) a w:=by
 have b:=S.s8 s;rw[e] at b;have⟨m,f,hr,hm⟩:=zG b;refine Ax (mO hr (n:=1) cw) u y k t (h _ ?_);have r:o.v.ownBlock=some g:=by rw[e];rfl
 exact akT
theorem acf(S:St w0 d l L O X w)(j:Nat)(k:O[j]?=some o)(n:o.v=.slice (some ⟨g,0,none⟩) o.n c)(i:Nat)(hi:i*o.z+o.z<=o.n*o.z)(t:a.eval (.tmp x)=.pointer (some ⟨g,i*o.z,none⟩))(u:a.eval (.tmp y)=.agg A)(r:A=ct o.z f)(s:jF P ty o.z)(q:∀i,(f i).oneCell'=true)(h:∀W,St w0 d l L (O.set j ⟨o.e,o.z,o.v,o.n,BL o.xs (i*o.z) (ct o.z f).toList⟩) X W->wpList P ops Q rest (a.put none undef) W):wpList P ops Q (⟨none,.store ty (.tmp x) (.tmp y),t2,p,af,none⟩::rest) a w:=by
 subst r;have b:=S.s8 k;rw[n] at b;have⟨m,f',hr,hm⟩:=zG b;refine wpList_store_mid (op:=⟨none,.store ty (.tmp x) (.tmp y),t2,p,af,none⟩) ae ty (.tmp x) (.tmp y) ae g (i*o.z) (ct o.z f) t u (by grind[cF,mO]) (by rw[cF];exact s.2) (nu f q) (h _ ?_);have e:o.v.ownBlock=some g:=by rw[n];rfl
 exact S.grow k (by grind[tj,iU.setCells]) (by grind[rI]) e (.inl e)
theorem afW(S:St w0 d l L O X w)(v:vT P ty e z by')(s:a.eval q=.int .i64 n)(t:a.eval r=.int .i64 n)(y:by'*n<=281474976710656)(o:n<=maxLen)(j:fT e=false)(k:kO e=false)(i:∀f c,P.info? e=some f->f.zero=some c->(madeCells c.cells (n*z)).toList=xs)(h:∀g W,St w0 d l L (⟨e,z,.slice (some ⟨g,0,none⟩) n n,n,xs⟩::O) X W->wpList P ops Q rest (a.put (some dst) (.slice (some ⟨g,0,none⟩) n n)) W):
 wpList P ops Q (⟨some dst,.makeSlice ty q r,t2,p,af,none⟩::rest) a w:=by
 have⟨hu,c,hi,hz,h0⟩:=v;have⟨f,hi1,hz0,hz1,hz2⟩:=nB hi;have b:=run_make w ty e f c hu hi1 hz0 .i64 .i64 (n:Nat) (n:Nat) cw cw iG bE;simp only[sO,hz1] at b;have x:=i f c hi1 hz0;refine lF ae λK m=>?_;unfold Oper.wp execOp;simp only[kj,s,t,b,mS];have u:(madeCells c.cells (n*z)).size=n*z:=by rw[size_madeCells]
 refine m _ _ (h _ _ (S.gm ((fO _ _).alloc (dK _) _) ⟨by grind,.inr ⟨w.heap.size,n,_,ae,dK _,zq w _,dK _,o,u,?_⟩⟩ j k));rw[x,nz];grind
end
structure dS where
 next:Nat
 cE:List cR
structure dD where
 next:Nat
 l:List dg
 dO:Option Addr
 cap:Nat
def dD.t(b:dD):dS:=⟨b.next,dJ b.l⟩
def dD.sv(b:dD):cI:=.slice b.dO b.l.length b.cap
def dk(b:dD):Nat->cI:=λi=>if i=0 then .int .u64 b.next else b.sv
def eY(b:dD):∀i,(dk b i).oneCell'=true:=by intro i;unfold dk;split<;>rfl
instance in5bfc3(x:dD):OF (dk x):=⟨eY x⟩
instance in4a6b3(b:dD):CV (dk b) 0 (.int .u64 b.next):=⟨rfl⟩
instance inbb8f1(b:dD):CV (dk b) 1 b.sv:=⟨rfl⟩
def gV(w:cB)(b:dD):Prop:=fE w b.sv b.l
def tp(w:cB)(base:Nat)(b:dD):Prop:=AG w base b.sv b.l
def kT(w':cB)(base:Nat)(B:fJ)(t:dS):Prop:=∃c:dD,B=ct 2 (dk c)/\c.t=t/\tp w' base c
def xZ(b:dS):Prop:=b.cE.length<=1000000/\ahY b.cE
theorem xZ.len{b:dD}(h:xZ b.t):b.l.length<=1000000:=by have:=h.1;grind[dD.t,gj]
def mP:jF prog 99 2:=⟨⟨_,underlying99,ae⟩,cX⟩
instance in70724 :rB 99 2:=⟨mP⟩
def rk:kB prog 97:=⟨⟨_,underlying97,ae⟩,cX⟩
instance in7ce2d :pS 97:=⟨rk⟩
def vy:dD:=⟨0,[],none,0⟩
def mZ:(#[.int .u64 0,.slice none 0 0]:fJ)=ct 2 (dk vy):=rfl
instance in159c4 :ZR 99 2 (dk vy):=⟨_,rl,mZ⟩
def Qc:(prog.info? 109).map (λi=>(i.zero,i.size,i.bytes))=some (some (.agg #[.int .u64 0,.string ⟨#[]⟩,.bool false,.int .u64 0,.int .u64 0,.int .u64 0,.int .i64 0,.int .i64 0,.int .u64 0,.int .u32 0,.slice none 0 0]),11,112):=cX
def Hk:vT prog 97 109 11 112:=⟨underlying97,_,Qc,ae,cw⟩
theorem Zl(n:Nat):(madeCells (ct 11 (gq mb)) (n*11)).toList=ij (replicate n mb):=by apply wm;intro t;by_cases b:t<n*11;have e:t=t/11*11+t%11:=cw;have a:t%11<11:=mod_lt _ cw;unfold ij;(conv=>rhs;rw[e]);rw[flat_get zF (replicate n mb) sp_ a];rw[getElem_replicate];unfold madeCells SN;rw[mj,Array.getElem?_map,Array.getElem?_range,cL b,mj,cU,cL a];simp only[Kb,cF,xk];rw[Array.getElem!_eq_getD,Array.getD_eq_getD_getElem?,cU,cL a];rfl;grind[size_madeCells,np]
section
variable {X':cD->cB->Prop}
def St.B6(S:St w0 d l L O X w)(a:tS Y)(b:Y (dM L O) w):St w0 d l L O (λB w=>X B w/\Y B w) w:=
 ⟨S.fr,S.row,S.own,S.lo,S.nd,⟨S.x,b⟩,S.k8.still a⟩
def St.zH(S:St w0 d l L O X w)(a:dz w w'){y:dg}(c:gg w' w.heap.size y.dv y.cO):St w0 d l L O (λB w=>X B w/\IY y B w) w':=
 (S.cx a).B6 (AE y) ((qW.of c).x λb h=>S.lt b h)
def St.Dx(S:St w0 d l L O X w)(h:∀B w,X B w->X' B w)(a:kK d X'):St w0 d l L O X' w:=
 ⟨S.fr,S.row,S.own,S.lo,S.nd,h _ _ S.x,a⟩
end
def XG(n:Nat)(a:TypeInfo)(b:cI)(h:prog.info? 109=some a)(c:a.zero=some b):(madeCells b.cells (n*11)).toList=ij (replicate n mb):=by have hi:=Qc;rw[h] at hi;simp only[Kb,c,xk,Prod.mk.injEq] at hi;rw[hi.1];exact Zl n
theorem SV{m:List dg}(c:k<m.length)(y:dg):BL (ij m) (k*11) (ct 11 (gq y)).toList=ij (m.set k y):=by refine Le zF m c y (by rw[yz,np]) (λj b=>?_) λi j a b=>?_;rw[xD _ _ _ _ bZ,cL aD,show k*11+j-k*11=j by omega];rfl;rw[xD _ _ _ _ bZ,cM aD];rfl
theorem pO(m:List α)(a:k<m.length)(y:α):(m.set k y).take (k+1)=m.take k++[y]:=by simp_all[xf,take_set_of_le]
theorem DP(l:List dg)(a:k<l.length):dJ (l.take (k+1))=dJ (l.take k)++[l[k].tocR]:=by grind[dJ,take_succ_eq_append_getElem]
def Qd(k:Int)(a:Option Addr)(n c:Nat):prog.built 99 [(0,.int .u64 k),(1,.slice a n c)]=some #[.int .u64 k,.slice a n c]:=cX
def qg(base:Nat)(x:dg):Prop:=0<x.cO.length->∀b,x.dv.ownBlock=some b->base<=b
def nE(m:List dg):cD->cB->Prop:=λB w=>∀x∈m,IY x B w
def iq(m:List dg):tS (nE m):=Hl m λx _=>AE x
def Lg{m:List dg}(e:m.length=n)(h:w.ownsRow w0.heap.size 109 11 (.slice (some ⟨g,0,none⟩) n c) n (ij m))(b:nE m B w)(d:∀x∈m,qg w0.heap.size x):AG w w0.heap.size (.slice (some ⟨g,0,none⟩) m.length c) m:=by subst e;exact⟨h,λx a=>⟨(b x a).1,d x a⟩⟩
section
attribute[local irreducible]wpList Code.wp Calls Oper.wp wpAnyH
def pA(b:dD)(A:fJ)(O:A=ct 2 (dk b))(M:xZ b.t)(w:cB)(R:gV w b):CP_ 112 #[.agg A] w λe w'=>∃B,e=.returned (.agg B)/\kT w' w.heap.size B b.t/\dz w w':=by
 have U:=M.len;have T:qe b.l:=M.2;have⟨bn,l,ao,cap⟩:=b;change fE w (.slice ao l.length cap) l at R;simp only at U T;have⟨n,r⟩:=c8 l.length;have f:=(du R.1);have R:=cq R;have X:=cq O;have F:dk ⟨bn,l,ao,cap⟩ 1=.slice ao n cap:=by rw[<-r];rfl
 have u:=cq F;have L:=cq r;rw[r] at R U;have S:=pF w;have⟨ao',cap',he,hcap,f⟩:=f;simp only[kM] at he;obtain⟨rfl,-,rfl⟩:=he;rw[r] at hcap f;have f:=cq f;clear O F r M;go_enter func112,ntmps112;go_upto_region 3 with(first|refine xN S rfl X.o rfl λW1 S=>?_|refine Db S 1 ae 1 (v:=.slice ao n cap) u.o ?_|(refine afW S (n:=n) Hk ae ae cw wR ae ae (XG n) λg W S=>?_;replace S:=S.Dx (X':=nE []) (λ_ _ _ x t=>by cases t) (iq []).k8)|refine ey λW S=>?_);have S:=cq S;go_loopw [12] (λi wr=>∃(k:Nat)(m:List dg),k<=n/\i=.int .i64 k/\Hid (m.length=n/\dJ (m.take k)=dJ (l.take k)/\(∀x∈m.take k,qg w.heap.size x)/\St w none [] [⟨W1.heap.size,99,2,dk vy⟩,⟨w.heap.size,99,2,dk ⟨bn,l,ao,cap⟩⟩] [⟨109,11,.slice (s_ g 0) n n,n,ij m⟩] (nE (m.take k)) wr)) (λi _=>n-(intOf i).toNat);exact akZ;clear S;obtain⟨k,m,hk,rfl,hS⟩:=hrel;have⟨d,a,c,S⟩:=hS.o;clear hS;by_cases G:k<n
 . (obtain⟨b,o,rfl⟩:=f.o cw;have j:k<l.length:=by rw[L.o];exact G);have⟨x,t⟩:=c8 (l[k]);have⟨D,q⟩:=eW (ct 11 (gq x));have H:=cq (mu l j (A:=D) (by rw[t];exact q));have I:=cq q;have K:=lU j;rw[t] at K;have V:=cq λW(s:dz w W)=>oZ x D I.o (T.at K).1 W ((R.o.cx s).2 x K);have HX:=cq t;have C:=cq (And.intro d (And.intro a c));have p:k<m.length:=cw;have R1:Hid (cK w 109 11 (.slice (s_ b o) n cap) n (ij l)):=cq (by have:=R.o.1;rwa [L.o] at this);clear q K t d a c;go_wp2_with (first|(first|refine Db S 1 ae 1 (v:=.slice (s_ b o) n cap) u.o ?_|refine Bf (R1.o.cx S.b) G (tL I) H.o ?_)|(refine(V.o _ S.b).mono ?_;rintro e W ⟨B,y,rfl,Q,J,s⟩;have Y:=cq Q;have HF:=cq akQ;replace S:=S.zH s J.2;have HY:=cq J.1;clear s Q J)|refine acf S 0 rfl rfl k (by show k*11+11<=n*11;omega) rfl rfl Y.o tf (lM _) λW S=>?_);go_roundw;have⟨d,a,c⟩:=C.o;refine⟨k+1,m.set k y,cw,by go_num,cq ⟨by rw[wu];exact d,?_,?_,?_⟩⟩;rw[pO m p,DP l j,<-a,HX.o,<-HY.o];unfold dJ;rw[mI];rfl;rw[pO m p];intro z N;rcases fL.1 N with h|h;exact c z h;rw[eV.1 h];exact HF.o;rw[pO m p,<-SV p y];refine S.Dx (λB w h z N=>?_) (iq _).k8;rcases fL.1 N with h2|h2;exact h.1 z h2;rw[eV.1 h2];exact h.2;exact oV
 . (obtain rfl:k=n:=cw;rw[nz cw] at a c S;rw[nz (by rw[L.o];exact dK _)] at a;have C:=cq (And.intro d (And.intro a c));obtain⟨D,q⟩:∃D:fJ,D=#[.int .u64 bn,.slice (s_ g 0) k k]:=⟨_,ae⟩;have E:D=ct 2 (dk ⟨bn,m,s_ g 0,k⟩):=by rw[q,<-d];rfl);have I:=cq q;have Z:=cq E;clear q E d a c;go_wp2_with first|refine kC (cells:=D) ae (by rw[I.o];exact Qd _ _ _ _) ?_|(refine lC ?_;exact⟨_,ae,⟨⟨bn,m,s_ g 0,k⟩,ae,by unfold dD.t;rw[C.o.2.1],Lg C.o.1 S.o0 S.x C.o.2.2⟩,S.b⟩)|refine eR ?_|refine ey λW S=>?_
def DQ(p:cR->Bool)(l:List dg)(v:cI)(I:l.length<=1000000)(g:Nat)(B:fJ)(w:cB)(F:∀args w,(callFunc g args).run prog w=.ok (.enter g args) w)(R:fE w v l)(hc:∀(k:Nat)x A W,l[k]?=some x->A=ct 11 (gq x)->dz w W->CP_ g (#[.agg A]++B) W λe w'=>e=.returned (.bool (p x.tocR))/\dz W w'):
 rF 176 #[v,.func (.func g) #[] B] w (.int .i64 (kE ((dJ l).findIdx? p))):=by
 obtain⟨ao,cap,rfl,C,f⟩:=du R.1;have D:=cq hc;clear hc;have R:=cq R;have f:=cq f;have S:=cq (pF w);go_enter func176,ntmps176;go_upto_region 2 with(fail);go_loopw [8] (λi wr=>∃k:Nat,k<=l.length/\i=.int .i64 k/\Hid ((∀(j:Nat)y,(dJ l)[j]?=some y->j<k->p y=false)/\St w none [] [] [] (λ_ _=>True) wr)) (λi _=>l.length-(intOf i).toNat);exact bT;clear S;obtain⟨k,H,rfl,hS⟩:=hrel;have⟨hold,S⟩:=hS.o;clear hS;by_cases c:k<l.length
 . (obtain⟨b,o,rfl⟩:=f.o cw;have⟨x,hx⟩:=c8 (l[k]);have⟨A,hA⟩:=eW (ct 11 (gq x));have d:=cq (mu l c (A:=A) (by rw[hx];exact hA));have m:l[k]?=some x:=by rw[iz c,hx]);have q:=cq λW E=>D.o k x A W m hA E;have t:=cq hA;have z:=cq m;have u:=cq hold;clear hA hx m hold;cases a:p x.tocR with|true=>have n:=cq a;rw[a] at q;clear a;go_wp2_with (first|((with_reducible refine aQ_ ?_);refine Bf (R.o.cx S.b).1 c (tL t) d.o ?_)|(show Calls _ _ _ _ _;refine je S (q.o _ S.b) λW S=>?_));go_ret;have a:(dJ l).findIdx? p=some k:=AH (by rw[l9,z.o];rfl) n.o u.o;exact⟨by rw[a];rfl,S.b⟩|false=>have n:=cq a;rw[a] at q;clear a;go_wp2_with (first|((with_reducible refine aQ_ ?_);refine Bf (R.o.cx S.b).1 c (tL t) d.o ?_)|(show Calls _ _ _ _ _;refine je S (q.o _ S.b) λW S=>?_));go_roundw;refine⟨k+1,cw,by go_num,cq ⟨λj y s G=>?_,S⟩⟩;by_cases r:j=k;subst r;rw[l9,z.o] at s;cases s;exact n.o;exact u.o j y s cw;exact oV
 . obtain rfl:k=l.length:=cw;have a:(dJ l).findIdx? p=none:=AI (by rw[gj];exact hold);have n:=cq a;clear a hold;go_wp2;go_ret;exact⟨by rw[n.o];rfl,S.b⟩
theorem Nf(x:dg)(A:fJ)(a:A=ct 11 (gq x))(id E:Nat)(w:cB)(h:cu w E 82 1 (λ_=>.int .u64 id)):rF 177 #[.agg A,.pointer (some ⟨E,0,none⟩)] w (.bool (decide (x.id=id))):=by
 have d:=cq a;have H:=cq h;clear a h;have b:(((x.id:Nat):Int)==((id:Nat):Int))=decide (x.id=id):=by grind
 have c:=cq b;clear b;have S:=pF w;go_enter func177,ntmps177;go_wp2_with (first|((with_reducible refine aQ_ ?_);refine yi (cu.cell (H.o.cx S.b) (i:=0) cw) ?_)|refine eR ?_|refine ey λW S=>?_);go_ret;exact akE
def uX(l:List dg)(v:cI)(id:Nat)(h:l.length<=1000000)(w:cB)(R:fE w v l):rF 131 #[v,.int .u64 id] w (.int .i64 (kE (eu (dJ l) id))):=by have R:=cq R;have b:∀args w,(callFunc 177 args).run prog w=.ok (.enter 177 args) w:=enters_of func177 cX ae;have d:=cq λ(f:fJ)W hR hc=>DQ (λx=>decide (x.id=id)) l v h 177 f W b hR hc;clear b;have S:=pF w;go_enter func131,ntmps131;go_wp2_with (first|(go_at_call 176;have c:=λ(k:Nat)(x:dg)(A:fJ)W'(_:l[k]?=some x)(g:A=ct 11 (gq x))a=>Nf x A g id _ W' (cu.cx S.k0 a);refine(d.o #[cZ _ 0] _ (R.o.cx S.b) c).mono ?_;clear c;rintro e W ⟨rfl,a⟩;replace S:=S.cx a)|refine ey λW S=>?_);go_ret;exact aw
def rn(cC:fh):Option fh:=
 match dG cC with
 |none=>none
 |some (v,s)=>if s=qz then some v else none
def nq(cC:fh):Option (fh×fh):=
 match dG cC with
 |none=>none
 |some (v,s)=>if s=qz then none else some (v,s)
def B7(s:fh)(d:s.size<=140737488355328)(w:cB):rF 140 #[.string s] w (.tuple #[.string ((rn s).getD qz),.int .i64 (fp 141 (rn s))]):=by
 have b:=cq (rM s d);have S:=pF w;rcases hn:dG s with _|p;have c:Hid (rn s=none):=cq (by unfold rn;rw[hn]);rw[hn] at b;clear hn;rotate_left;have⟨v,t⟩:=p;rw[hn] at b;by_cases a:t=qz;have c:Hid (rn s=some v):=cq (by unfold rn;rw[hn];simp only[a,nI]);subst a;unfold qz at b;clear hn;rotate_left;have c:Hid (rn s=none):=cq (by unfold rn;rw[hn];simp only[a,lE]);have e:=zE a;clear hn a
 all_goals
  rw[c.o];go_enter func140,ntmps140
  go_wp2_with refine je S (b.o _) λW S=>?_
  go_ret2;exact aw
def AJ(s:fh)(d:s.size<=140737488355328)(w:cB):rF 111 #[.string s] w (.tuple #[.string ((nq s).getD (qz,qz)).1,.string ((nq s).getD (qz,qz)).2,.int .i64 (fp 141 (nq s))]):=by
 have b:=cq (rM s d);have S:=pF w;rcases hn:dG s with _|p;have c:Hid (nq s=none):=cq (by unfold nq;rw[hn]);rw[hn] at b;clear hn;rotate_left;have⟨v,t⟩:=p;rw[hn] at b;by_cases a:t=qz;have c:Hid (nq s=none):=cq (by unfold nq;rw[hn];simp only[a,nI]);subst a;unfold qz at b;clear hn;rotate_left;have c:Hid (nq s=some (v,t)):=cq (by unfold nq;rw[hn];simp only[a,lE]);have e:=zE a;clear hn a
 all_goals
  rw[c.o];go_enter func111,ntmps111
  go_wp2_with refine je S (b.o _) λW S=>?_
  go_ret3;exact aw
def jB(s:List cR)(cC:fh):Option Nat:=(mF s cC).1.bind λk=>eu s (di s k).id
theorem Qe(s:List cR)(cC:fh):(∃c:Int,c≠0/\mF s cC=(none,c))∨∃k,k<s.length/\mF s cC=(some k,0):=by unfold mF;split;grind;split;grind;next i h1=>have hi:i<s.length:=(GV.1 h1).1;split;grind;split;grind;next j h2=>exact .inr ⟨j,(GV.1 h2).1,ae⟩
def wU(b:dD)(A:fJ)(m:A=ct 2 (dk b))(j:xZ b.t)(cC:fh)(l:cC.size<=140737488355328)(w:cB)(R:gV w b):rF 113 #[.agg A,.string cC] w (.int .i64 (kE (jB b.t.cE cC))):=by
 have n:=j.len;have s:=cq m;have R:=cq R;have g:=cq λW(a:dz w W)=>FQ b.l b.sv cC l n j.2 W (R.o.cx a);have o:=cq λid W(a:dz w W)=>uX b.l b.sv id n W (R.o.cx a);have S:=pF w;clear m j;show Calls _ _ _ _ λe w'=>e=.returned (.int .i64 (kE (jB (dJ b.l) cC)))/\_;rcases Qe (dJ b.l) cC with⟨c,hc,d⟩|⟨k,t,d⟩
 . have i:Hid (jB (dJ b.l) cC=none):=cq (by unfold jB;rw[d];rfl);rw[d] at g;have r:(c !=0)=true:=eO.2 hc;clear d hc;rw[i.o];go_enter func113,ntmps113;go_wp2_with (first|(refine ag (g.o _ S.b) λB W⟨⟨y,f,h,ho⟩,a⟩=>?_;have p:=cq f;replace S:=S.cx a;clear a f h)|refine eR ?_|refine ey λW S=>?_);go_ret;exact aw
 . have⟨x,HX⟩:=q8 ((di (dJ b.l) k).id);have i:Hid (jB (dJ b.l) cC=eu (dJ b.l) x):=cq (by unfold jB;rw[d,<-HX.o];rfl);rw[d] at g;rw[i.o];clear d;go_enter func113,ntmps113;go_wp2_with (first|(refine ag (g.o _ S.b) λB W⟨⟨y,f,h,ho⟩,a⟩=>?_;have p:=cq f;have q:Hid (Value.int .u64 y.id=.int .u64 x):=cq (by rw[<-HX.o];show Value.int .u64 y.tocR.id=_;rw[h];rfl);replace S:=S.cx a;clear a f h)|refine Db S 0 ae 0 (v:=.int .u64 x) q.o ?_|refine je S (o.o x _ S.b) λW S=>?_|refine eR ?_|refine ey λW S=>?_);go_ret;exact aw
def nt(s:List cR)(cC:fh):Option Nat×Int:=
 match rn cC with
 |none=>(none,141)
 |some _=>match jB s cC with
  |none=>(none,172)
  |some i=>(some i,0)
def Hm(b:dD)(A:fJ)(f:A=ct 2 (dk b))(g:xZ b.t)(cC:fh)(c:cC.size<=140737488355328)(w:cB)(R:gV w b):rF 127 #[.agg A,.string cC] w (.tuple #[.int .i64 (kE (nt b.t.cE cC).1),.int .i64 (nt b.t.cE cC).2]):=by
 have k:=cq f;have R:=cq R;have d:=cq (B7 cC c);have a:=cq λW(h:dz w W)=>wU b A f g cC c W (R.o.cx h);have S:=pF w;clear f g;rcases hv:rn cC with _|vv;have e:Hid (nt b.t.cE cC=(none,141)):=cq (by unfold nt;rw[hv]);rw[hv] at d;rotate_left;rw[hv] at d;rcases hi:jB b.t.cE cC with _|i;have e:Hid (nt b.t.cE cC=(none,172)):=cq ale;rw[hi] at a;simp only[kE] at a;rotate_left;have e:Hid (nt b.t.cE cC=(some i,0)):=cq ale;rw[hi] at a;simp only[kE] at a;have j:¬((i:Int)<0):=cw
 all_goals
  first|clear hv hi|clear hv
  rw[e.o];go_enter func127,ntmps127
  go_wp2_with first|refine je S (d.o _) λW S=>?_|refine je S (a.o _ S.b) λW S=>?_|refine ey λW S=>?_|refine eR ?_
  go_ret2;exact aw
theorem St.B8(S:St w0 d l L O X w)(h:dz w w'){m:List dg}(ho:AG w' w.heap.size v m):
 St w0 d l L (⟨109,11,v,m.length,ij m⟩::O) (λB w=>X B w/\nE m B w) w':=by refine(S.gm h ho.1 ae ae).B6 (iq m) λx f=>⟨(ho.2 x f).1,λg b c i=>?_⟩;have p:=(ho.2 x f).2 g b c;have k:=(ho.2 x f).1.ty c g;rcases gy.1 i with⟨r,j,e⟩|⟨o,a,e⟩;have:=S.lt b (gy.2 (.inl ⟨r,j,e⟩));omega;rcases ib.1 a with rfl|a;have n:=uQ ho.1 e;grind;have:=S.lt b (gy.2 (.inr ⟨o,a,e⟩));omega
def yY(b:dS)(s:cR):dS:=⟨iA b.next,b.cE++[s]⟩
def Zm(n:Nat):IntKind.u64.wrap ((n:Int)+1)=((iA n:Nat):Int):=by rfl
def Hn(b:dD)(A:fJ)(n:A=ct 2 (dk b))(o:xZ b.t)(s:dg)(D:fJ)(q:D=ct 11 (gq s))(w:cB)(R:gV w b):
 CP_ 116 #[.agg A,.agg D] w λe w'=>∃(B:fJ)(m:List dg)(ao:Option Addr)(c:Nat),e=.returned (.agg B)/\B=ct 2 (dk ⟨iA b.next,m++[s],ao,c⟩)/\dJ m=dJ b.l/\
  w'.ownsRow w.heap.size 109 11 (.slice ao (m.length+1) c) (m.length+1) (ij (m++[s]))/\(∀x∈m,qW w' w.heap.size x)/\dz w w':=by have z:=o.len;have G:=cq n;have I:=cq q;have R:=cq R;have r:=cq λW(d:dz w W)=>pA b A n o W (R.o.cx d);have S:=pF w;have⟨bn,l,ba,bc⟩:=b;have J:=Zm bn;simp only at z;clear n o q;go_enter func116,ntmps116;go_wp2_with first|(refine ag (r.o _ S.b) λB W⟨⟨⟨h,m,v,y⟩,p,hc,ho⟩,d⟩=>?_;have⟨hcn,hcs⟩:=dS.mk.inj hc;simp only at hcn hcs;subst hcn;have H:=cq p;have u:=cq hcs;have C:m.length<=1000000:=(by have k:=fK length hcs;rw[gj,gj] at k;omega);have t:=cq (show∀x∈m,qg w.heap.size x from λx f F b k=>gO S.fr.size ((ho.2 x f).2 F b k));replace S:=S.B8 d ho;change St _ _ _ _ (⟨109,11,.slice v m.length y,m.length,ij m⟩::_) _ _ at S;clear d p hc hcs)|refine rK S 0 rfl 0 rfl rfl rfl rfl Hk (lM _) Br wR λi g W S=>?_|refine vU S 1 rfl 1 (dk ⟨h,m++[s],s_ i 0,g⟩) (λj a=>by have a:j<2:=a;rcases j with(_|_|j);rfl;show Value.slice _ (m++[s]).length _=_;rw[ik];rfl;omega) pR rfl rfl rfl rk λW S=>?_|(refine vU S 1 ae 0 (dk ⟨iA h,m++[s],s_ i 0,g⟩) (λj a=>by have a:j<2:=a;rcases j with(_|_|j);rfl;rfl;omega) pR ae ae ae fg λW S=>?_;have⟨E,HE⟩:=xm (ct 2 (dk ⟨iA h,m++[s],s_ i 0,g⟩)))|(refine lC ?_;exact⟨_,m,_,_,ae,ae,u.o,by rw[vx,SO];exact S.o0,λx f=>⟨(S.x.2 x f).1,t.o x f⟩,S.b⟩)|refine eR ?_|refine ey λW S=>?_
end
section
theorem St.Lh(S:St w0 d l L O X w)(h:dz w w'){m:List dg}(ho:w'.ownsRow w.heap.size 109 11 v m.length (ij m))(f:∀x∈m,xW w' x)(p:∀x∈m,0<x.cO.length->∀b,x.dv.ownBlock=some b->b∉dM L O):
 St w0 d l L (⟨109,11,v,m.length,ij m⟩::O) (λB w=>X B w/\nE m B w) w':=by refine(S.gm h ho ae ae).B6 (iq m) λx g=>⟨f x g,λj b c i=>?_⟩;have k:=(f x g).ty c j;rcases gy.1 i with⟨r,q,e⟩|⟨o,a,e⟩;grind[gy];rcases ib.1 a with rfl|a;have n:=uQ ho e;grind;grind[gy]
def St.jv(S:St w0 d l L O X w)(a:dz w w'){c:dD}(ho:tp w' w.heap.size c):
 St w0 d l L (⟨109,11,c.sv,c.l.length,ij c.l⟩::O) (λB w=>X B w/\nE c.l B w) w':=S.B8 a ho
def St.fresh(S:St w0 d l L O X w){c:dD}(ho:tp w' w.heap.size c):∀x∈c.l,qg w0.heap.size x:=
 λx f e b a=>gO S.fr.size ((ho.2 x f).2 e b a)
def St.iF{c:dD}(S:St w0 d l L (⟨109,11,c.sv,c.l.length,ij c.l⟩::O) (λB w=>X B w/\nE c.l B w) w)(b:∀x∈c.l,qg w0.heap.size x):tp w w0.heap.size c:=
 ⟨S.o0,λx a=>⟨(S.x.2 x a).1,b x a⟩⟩
end
def zI{n:Fi}{t:dS}(S:St w0 d l L O X w)(C:CP_ n args w λe w'=>∃B,e=.returned (F B)/\kT w' w.heap.size B t/\dz w w')(h:∀W B c,Hid (B=ct 2 (dk c))->Hid (c.t=t)->Hid (∀x∈c.l,qg w0.heap.size x)->St w0 d l L (⟨109,11,c.sv,c.l.length,ij c.l⟩::O) (λB w=>X B w/\nE c.l B w) W->R (.returned (F B)) W):CP_ n args w R:=
 C.mono λe W ⟨B,he,⟨c,hB,hc,ho⟩,hb⟩=>by subst he;exact h W B c hB hc (S.fresh ho) (S.jv hb ho)
def FT(w:cB)(x:dg)(a:x.cO=[])(b:x.dO=none)(c:x.cap=0):xW w x:=by unfold xW dg.dv;rw[a,b,c];exact cK.nil _ _ _
def jh(b:dS)(cC:fh)(a:Int):dS×Int:=
 match rn cC with
 |none=>(b,141)
 |some jA=>if a<1∨64<a then(b,176) else if 32<=b.cE.length then(b,175) else
  match jB b.cE cC with
  |some _=>(b,171)
  |none=>(yY b ⟨b.next,jA,false,b.next,0,0,a.toNat,cH,[]⟩,0)
section
attribute[local irreducible]wpList Code.wp Calls Oper.wp wpAnyH
theorem Li(b:dD)(A:fJ)(l:A=ct 2 (dk b))(r:xZ b.t)(cC:fh)(o:cC.size<=140737488355328)(a:Int)(w:cB)(R:gV w b):
 CP_ 77 #[.agg A,.string cC,.int .i64 a] w λe w'=>∃B,e=.returned (.tuple #[.agg B,.int .i64 (jh b.t cC a).2])/\kT w' w.heap.size B (jh b.t cC a).1/\dz w w':=by
 have N:=cq l;have R:=cq R;have E:=cq (B7 cC o);have k:=cq λW(d:dz w W)=>wU b A l r cC o W (R.o.cx d);have G:=cq λW(d:dz w W)=>pA b A l r W (R.o.cx d);have v:=cq λs D hD W(d:dz w W)=>Hn b A l r s D hD W (R.o.cx d);have S:=pF w;have z:b.l.length=b.t.cE.length:=(gj _).symm;clear l r;have⟨T,HT⟩:=q8 (jh b.t cC a);rw[HT.o];go_enter func77,ntmps77;go_upto_region 2 with(first|refine je S (E.o _) λW S=>?_|refine ey λW S=>?_);rcases hv:rn cC with _|jA;obtain rfl:(b.t,141)=T:=by rw[<-HT.o];unfold jh;rw[hv]
 rotate_left;by_cases p:a<1∨64<a;obtain rfl:(b.t,176)=T:=by rw[<-HT.o];unfold jh;rw[hv];simp only[p,nI]
 rotate_left;have O:¬a<1:=cw;have Q:¬64<a:=cw;by_cases u:32<=b.t.cE.length;obtain rfl:(b.t,175)=T:=by rw[<-HT.o];unfold jh;rw[hv];simp only[p,u,nI,lE]
 have L:(32:Int)<=(b.l.length:Int):=cw;rotate_left;have L:¬(32:Int)<=(b.l.length:Int):=cw;rcases f:jB b.t.cE cC with _|i;obtain⟨n,rfl⟩:∃n:Nat,a=n:=⟨a.toNat,cw⟩;obtain rfl:(yY b.t ⟨b.next,jA,false,b.next,0,0,n,cH,[]⟩,0)=T:=by rw[<-HT.o];unfold jh;rw[hv];simp only[p,u,lE,f];rfl
 rw[f] at k;simp only[kE] at k;have⟨D,hD⟩:=eW (ct 11 (gq ⟨⟨b.next,jA,false,b.next,0,0,n,cH,[]⟩,none,0⟩));have F:=cq (v.o _ D hD);have J:=cq hD;clear hD v;rotate_left;obtain rfl:(b.t,171)=T:=by rw[<-HT.o];unfold jh;rw[hv];simp only[p,u,lE,f]
 rw[f] at k;simp only[kE] at k
 all_goals
  go_wp2_with first|refine jl 29 97 28 S 1 1 (.slice b.dO b.l.length b.cap) ?_|refine zI S (G.o _ S.b) λW B c H I t S=>?_|refine je S (k.o _ S.b) λW S=>?_|refine kC (cells:=D) ae (by rw[J.o];kernel_rfl) ?_|(refine(F.o _ S.b).mono ?_;rintro e W ⟨B,m,ao,c,rfl,y,C,ho,q,d⟩;have H:=cq y;have K:=cq C;have t:=cq (show∀x∈m,qg w.heap.size x from λx g f b j=>gO S.fr.size ((q x g).2 f b j));replace S:=S.Lh d (m:=m++[_]) (by rw[ik];exact ho) (λx g=>by rcases fL.1 g with h|h;exact(q x h).1;rw[eV.1 h];exact FT _ _ ae ae ae) (λx g f b j M=>by rcases fL.1 g with h|h;have:=(q x h).2 f b j;have:=S.lt b M;omega;grind);clear d y q C)|refine eR ?_|refine ey λW S=>?_|(refine lC ?_;exact⟨_,ae,⟨c,ae,I.o,S.iF t.o⟩,S.b⟩)|(refine lC ?_;exact⟨_,ae,⟨_,ae,by unfold dD.t yY dJ;rw[mI];simp only;rw[show map dg.tocR m=dJ m from ae,K.o];rfl,by have j:=S.o0;exact⟨by unfold dD.sv;rw[ik] at j|-;exact j,λx g=>⟨(S.x.2 x g).1,by rcases fL.1 g with h|h;exact t.o x h;grind⟩⟩⟩,S.b⟩)
def SE1(w0:cB)(d:Option Nat)(l:cD)(rs:List R4):cB->Prop:=λW=>∃L O X,St w0 d l L O X W/\∀r∈rs,r∈L
theorem SE1.row(h:SE1 w0 d l rs W)(k:Nat){r:R4}(a:rs[k]?=some r):cu W r.b r.t r.n r.f:=by have⟨L,O,X,S,hr⟩:=h;exact(S.row r (hr r (kt a))).1
theorem SE1.fr{w0 W:cB}{d:Option Nat}{l:cD}{rs:List R4}(h:SE1 w0 d l rs W):Fr d l w0 W:=by have⟨L,O,X,S,hr⟩:=h;exact S.fr
def dN(S:St w0 d l L O X w){id:Nat}(b:P.follows .mixedOrders=true)(rs:List R4)(c:∀r∈rs,r∈L)(h:∀W,St w0 d l L O X W->wpAnyH P .any ops Q (SE1 w0 d l rs) ops.size (Array.replicate ops.size false) a W):(Code.region id ops true).wp P Q a w:=
 wp_region_held_drew b ⟨L,O,X,S.drew,c⟩ λ_=>h _ S.drew
theorem uB{l:List dg}(h:jB (dJ l) cC=some k):∃x,l[k]?=some x:=by unfold jB at h;cases a:(mF (dJ l) cC).1 with|none=>grind|some j=>grind[jU,di,dJ]
theorem SW{x:Nat}{o:Nat}{s:dg}(e:∀w,SS w->my w b o s)(g:a.eval (.tmp x)=.pointer (some ⟨b,o+7,none⟩))(d:A=ct 3 (c7 s.cz))(f:Region.wanted ⟨some dst,.load 106 (.tmp x),t2,pp,af,gd⟩ (yielded ops a.tmps)=true:=by kernel_rfl):YieldsIf prog ops SS ⟨some dst,.load 106 (.tmp x),t2,pp,af,gd⟩ (.agg A) a:=by have⟨⟨dd,hu,hd⟩,hi⟩:=eN;have h:=yieldsIf_load_mid (P:=prog) (S:=SS) (op:=⟨some dst,.load 106 (.tmp x),t2,pp,af,gd⟩) (ops:=ops) f 106 (.tmp x) ae b (o+7) g A.toList dd (λw h=>?_) hu hd aD;omega;intro j v c;rw[d,mj (xs:=ct 3 _),cU] at c;split at c;(next hj=>cases c;rw[GS,e w h (7+j) cw];unfold gq;grind);cases c
def jH(b:dS)(a c:fh):dS×Int:=
 match nq a with
 |none=>(b,141)
 |some _=>match rn c with
  |none=>(b,141)
  |some jA=>match jB b.cE a with
   |none=>(b,172)
   |some i=>if 32<=b.cE.length then(b,175) else match jB b.cE c with
    |some _=>(b,171)
    |none=>(yY b ⟨b.next,jA,false,b.next,(di b.cE i).id,0,(di b.cE i).blocks,(di b.cE i).cz,[]⟩,0)
theorem Ng(b:dD)(A:fJ)(C:A=ct 2 (dk b))(J:xZ b.t)(a d:fh)(L:a.size<=140737488355328)(M:d.size<=140737488355328)(w:cB)(R:gV w b):
 CP_ 97 #[.agg A,.string a,.string d] w λe w'=>∃B,e=.returned (.tuple #[.agg B,.int .i64 (jH b.t a d).2])/\kT w' w.heap.size B (jH b.t a d).1/\dz w w':=by
 have HA:=cq C;have N:=cq R;have C1:=cq (AJ a L);have C5:=cq (B7 d M);have C2:=cq λW(o:dz w W)=>wU b A C J a L W (N.o.cx o);have t:=cq λW(o:dz w W)=>wU b A C J d M W (N.o.cx o);have F:=cq λW(o:dz w W)=>pA b A C J W (N.o.cx o);have Y:=cq λs D hD W(o:dz w W)=>Hn b A C J s D hD W (N.o.cx o);have S:=pF w;have a3:b.l.length=b.t.cE.length:=(gj _).symm;obtain⟨ao,cap,-,a1,a5⟩:=du R.1;clear C J;have⟨T,hT⟩:=c8 (jH b.t a d);have y:=cq hT;rw[hT];clear hT;go_enter func97,ntmps97;go_upto_region 2 with(first|refine je S (C1.o _) λW S=>?_|refine ey λW S=>?_)
 cases E:nq a with
 |none=>
  obtain rfl:(b.t,141)=T:=by rw[<-y.o];unfold jH;rw[E]
  go_wp2_with first|refine zI S (F.o _ S.b) λW B c u p g S=>?_|(refine lC ?_;exact⟨_,ae,⟨c,ae,p.o,S.iF g.o⟩,S.b⟩)|refine eR ?_|refine ey λW S=>?_
 |some vv=>
  go_upto_region 5 with(refine je S (C5.o _) λW S=>?_)
  cases l:rn d with
  |none=>
   obtain rfl:(b.t,141)=T:=by rw[<-y.o];unfold jH;rw[E];simp only[l]
   go_wp2_with first|refine zI S (F.o _ S.b) λW B c u p g S=>?_|(refine lC ?_;exact⟨_,ae,⟨c,ae,p.o,S.iF g.o⟩,S.b⟩)|refine eR ?_|refine ey λW S=>?_
  |some jA=>
   go_upto_region 8 with(first|refine je S (C2.o _ S.b) λW S=>?_|refine eR ?_)
   cases q:jB b.t.cE a with
   |none=>
    obtain rfl:(b.t,172)=T:=by rw[<-y.o];unfold jH;rw[E];simp only[l,q]
    simp only[kE]
    go_wp2_with (first
   |refine zI S (F.o _ S.b) λW B c u p g S=>?_
   |(refine lC ?_;exact⟨_,ae,⟨c,ae,p.o,S.iF g.o⟩,S.b⟩)
   |refine eR ?_
   |refine ey λW S=>?_)
   |some i=>
    simp only[kE];have a6:¬((i:Int)<0):=cw;by_cases X:32<=b.t.cE.length
    . obtain rfl:(b.t,175)=T:=by rw[<-y.o];unfold jH;rw[E];simp only[l,q,X,nI]
      have h5:(32:Int)<=(b.l.length:Int):=cw
      go_wp2_with first|(first|refine jl 44 97 43 S 1 1 (.slice b.dO b.l.length b.cap) ?_)|refine zI S (F.o _ S.b) λW B c u p g S=>?_|(refine lC ?_;exact⟨_,ae,⟨c,ae,p.o,S.iF g.o⟩,S.b⟩)|refine eR ?_|refine ey λW S=>?_
    . have h5:¬(32:Int)<=(b.l.length:Int):=cw
      go_upto_region 12 with(refine jl 44 97 43 S 1 1 (.slice b.dO b.l.length b.cap) ?_)
      cases r:jB b.t.cE d with
      |some j=>
       obtain rfl:(b.t,171)=T:=by rw[<-y.o];unfold jH;rw[E];simp only[l,q,X,lE,r]
       rw[r] at t;simp only[kE] at t
       go_wp2_with first|refine je S (t.o _ S.b) λW S=>?_|refine zI S (F.o _ S.b) λW B c u p g S=>?_|(refine lC ?_;exact⟨_,ae,⟨c,ae,p.o,S.iF g.o⟩,S.b⟩)|refine eR ?_|refine ey λW S=>?_
      |none=>
       rw[r] at t;simp only[kE] at t;have⟨x,f⟩:=uB q;have a7:=(mQ.1 f).1;have a2:(i:Int)<(b.l.length:Int):=cw;have hg:di b.t.cE i=x.tocR:=kF f;obtain rfl:(yY b.t ⟨b.next,jA,false,b.next,x.id,0,x.blocks,x.cz,[]⟩,0)=T:=by rw[<-y.o];unfold jH;rw[E];simp only[l,q,X,lE,r,hg];rfl
       have⟨D,hD⟩:=eW (ct 11 (gq ⟨⟨b.next,jA,false,b.next,x.id,0,x.blocks,x.cz,[]⟩,none,0⟩));have⟨G,hG⟩:=eW (ct 3 (c7 x.cz));have C4:=cq (Y.o _ D hD);have HD:=cq hD;have Z:=cq hG;obtain⟨k,n,I⟩:∃k n,b.dO=s_ k n:=by
        obtain⟨_,_,V,_,h⟩:=du R.1;unfold dD.sv at V;simp only[kM] at V;have⟨h1,o1,h2⟩:=h cw;exact⟨h1,o1,by rw[V.1];exact h2⟩
       have Q:Hid (dk b 1=.slice (s_ k n) b.l.length b.cap):=cq (by rw[<-I];rfl);have R9:fE w (.slice (s_ k n) b.l.length b.cap) b.l:=by have:=R;unfold gV dD.sv at this;rwa [I] at this
       have U:=cq (R9.at f);clear hD Y hG
       go_upto_region 15 with(first|refine je S (t.o _ S.b) λW S=>?_|refine Db S 1 ae 1 (v:=.slice (s_ k n) b.l.length b.cap) Q.o ?_|refine eR ?_)
       refine dN S cX [⟨w.heap.size,99,2,dk b⟩] Be λW S=>?_;refine fW 0 (.agg A) ae (pZ aF ae HA.o mP) ?_;refine cJ 1 (cZ w.heap.size 0) ?_;refine cJ 2 (.int .u64 b.next) ?_;refine cJ 3 _ ?_;refine cJ 4 (cZ w.heap.size 0) ?_;refine cJ 5 (.int .u64 b.next) ?_;refine cJ 6 _ ?_;refine cJ 7 (cZ k (n+i*11)) ?_;refine cJ 8 (cZ k (n+i*11)) ?_;refine fW 9 (.int .u64 x.id) ae (fR (λw h=>(U.o.cx h.fr.cx).c0) ae fg) ?_;refine cJ 10 _ ?_;refine cJ 11 (cZ k (n+i*11)) ?_;refine cJ 12 (cZ k (n+i*11+6)) ?_;refine fW 13 (.int .i64 x.blocks) ae (fR (λw h=>(U.o.cx h.fr.cx).c6) ae BU) ?_;refine cJ 14 _ ?_;refine cJ 15 (cZ k (n+i*11)) ?_;refine cJ 16 (cZ k (n+i*11+7)) ?_;refine fW 17 (.agg G) ae (SW (λw h=>U.o.cx h.fr.cx) ae Z.o) ?_;refine fW 18 (.agg D) ae (xO ae (by rw[HD.o,Z.o];kernel_rfl)) ?_;refine jQ 19 λK H=>?_
       go_wp2_with fail
       refine(C4.o _ S.b).mono ?_;rintro e W ⟨B,m,a4,c,rfl,hB,hm,ho,O,o⟩;have u:=cq hB;have HM:=cq hm;have g:=cq (show∀x∈m,qg w.heap.size x from λx f q b z=>gO S.fr.size ((O x f).2 q b z));replace S:=S.Lh o (m:=m++[_]) (by rw[ik];exact ho) (λx f=>by rcases fL.1 f with h|h;exact(O x h).1;rw[eV.1 h];exact FT _ _ ae ae ae) (λx f q b z h8=>by rcases fL.1 f with h|h;have:=(O x h).2 q b z;have:=S.lt b h8;omega;grind);clear o hB ho O hm;refine fC H ?_;clear H K;refine jQ 20 λK H=>?_;refine ju S 0 ae ae ae u.o mP (eY _) λW S=>?_;refine fC H ?_;clear H K;refine cJ 21 _ ?_;refine pz ?_
       go_wp2_with (refine lC ?_;exact⟨_,ae,⟨_,ae,by unfold dD.t yY dJ;rw[mI];simp only;rw[show map dg.tocR m=dJ m from ae,HM.o];rfl,by have z:=S.o0;exact⟨by unfold dD.sv;rw[ik] at z|-;exact z,λx f=>⟨(S.x.2 x f).1,by rcases fL.1 f with h|h;exact g.o x h;grind⟩⟩⟩,S.b⟩)
end
section
variable {x:Nat}
theorem XH(c:w.there b i 1)(n:a.eval (.tmp x)=.pointer (some ⟨b,i,none⟩))(o:a.eval q=v)(m:v.oneCell'=true)(e:kB P ty)(h:K (a.put none undef) (w.setCell ⟨b,i,none⟩ v)):Oper.wp P ⟨none,.store ty (.tmp x) q,t2,p,af,none⟩ a w K Q:=by
 have d:=KU (P:=P) b i [v] 0 w (λj g=>by simpa using(c j cw).1) (λj g=>by simpa using(c j cw).2) (λu r=>by grind);have hc:v.cells=#[v]:=by cases v<;>first|rfl|cases m
 have f:(storeVar ty ⟨b,i,none⟩ v).run P w=.ok () (w.setCell ⟨b,i,none⟩ v):=by cases k:P.info? ty with|none=>have:=e.2;grind|some it=>(have l:it.size=1:=by have:=e.2;grind);simp only[wi] at d;simp[storeVar,sizeOf,typeInfo,k,hc,l,d];rfl
 unfold Oper.wp execOp;simp only[n,o,Instr.storeAt,Instr.sureAddr,kj,qq,mS,f];exact h
def Lj(S:St w0 d l L O X w)(j:Nat)(s:O[j]?=some o)(e:o.v=.slice (some ⟨g,0,none⟩) o.n c)(i:Nat)(hi:i<o.n*o.z)(u:a.eval (.tmp x)=.pointer (some ⟨g,i,none⟩))(y:a.eval q=v)(k:v.oneCell'=true)(t:kB P ty)(h:∀W,St w0 d l L (O.set j ⟨o.e,o.z,o.v,o.n,o.xs.set i v⟩) X W->K (a.put none undef) W):Oper.wp P ⟨none,.store ty (.tmp x) q,t2,p,af,none⟩ a w K Q:=by
 have b:=S.s8 s;rw[e] at b;have⟨m,f,hr,hm⟩:=zG b;refine XH (mO hr (n:=1) cw) u y k t (h _ ?_);have r:o.v.ownBlock=some g:=by rw[e];rfl
 exact akT
end
theorem uC{m:List dg}(b:k<m.length){x:dg}(d:m[k]=x)(j:Nat)(e:j<11)(v:cI)(y:dg)(h:∀i,i<11->gq y i=if i=j then v else gq x i):(ij m).set (k*11+j) v=ij (m.set k y):=by refine Le zF m b y (by grind[np]) (λi hi=>?_) λi r c f=>?_;unfold SN;rw[mj (xs:=ct 11 _),cU,cL hi,h i hi];by_cases a:i=j;subst a;rw[getElem?_set_self (by rw[np];omega),cL ae];rw[getElem?_set_ne cw,cM a,mu m b (A:=ct 11 (gq x)) (by rw[d]) i hi,cU,cL hi];grind[ij]
theorem vW{cC jA cW:fh}(h:dG cC=some (jA,cW)):dV jA=true:=by grind[dG]
theorem Qf{jA cW:fh}(h:nq cC=some (jA,cW)):jA.size<=140737488355328:=by grind[nq,jL,vW]
def iD(b:dS)(cC:fh)(cA:Nat):dS×Int:=
 match nq cC with
 |none=>(b,141)
 |some (jA,cW)=>match jB b.cE jA with
  |none=>(b,172)
  |some i=>if 32<=b.cE.length then(b,175) else match jB b.cE cC with
   |some _=>(b,171)
   |none=>if cA<1∨281474976710655<cA∨cA<=eM b.cE (di b.cE i).id then(b,176) else
    (⟨iA b.next,(b.cE++[{di b.cE i with id:=b.next,name:=cW,cW:=true,cG:=(di b.cE i).id,cA:=cA}]).set i {di b.cE i with cT:=b.next,cO:=[]}⟩,0)
end Go.Proofs.YtklligbjoplbgaaGreat