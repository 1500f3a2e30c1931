/- Part 6 of 15 of the proof of WholeBytes; no conditions. -/
import Derived.Test.YtklligbjoplbgaaGreatNae
import Derived.Laws.RangeAny
import Derived.Laws.RangeString
import Derived.Sort.AtCall
import Derived.Laws.Externs
namespace Go.Proofs.YtklligbjoplbgaaGreat
set_option linter.all false
set_option maxRecDepth 100000
set_option maxHeartbeats 64000000
open Go.RowKit Lib List Nat _root_.Go.Proofs.Tryz Go.Shelf
variable {A args:iw}{F:iw->bh}{a:Act}{K:Act->aD->Prop}{af:Array Edge}{ops:Array Oper}{ts:Array dD}{full s:lf}{R:Ending->aD->Prop}{Q:Exit->Act->aD->Prop}{B bs l:aK}{X Y:aK->aD->Prop}{O:List O4}{rest:List Oper}{L rs:List R4}{xs:List bh}{b base by' c cap dst g i id j k n y z:Nat}{f:Nat->bh}{o:O4}{hi lo q r:Operand}{gd:Option (Nat×Bool)}{ao:Option Addr}{d:Option Nat}{P:pw}{p pp:String}{T e t2 ty:dD}{α β:Type}{u v:bh}{W w w' w0:aD}{SS:aD->Prop}
section
variable {x:Nat}
theorem lq {t:dD}(hR: ∀w,SS w->ag w b t n f)(hx:a.eval (.tmp x)=.pointer (some ⟨b,0,none⟩))(hA:A=ah n f)(ht:fu P ty n)(hw:Region.wanted ⟨some dst,.load ty (.tmp x),t2,p,af,gd⟩ (yielded ops a.tmps)=true:=by kernel_rfl):YieldsIf P ops SS ⟨some dst,.load ty (.tmp x),t2,p,af,gd⟩ (.agg A) a:=by
 obtain⟨⟨dd,hu,hd⟩,hi⟩:=ht;have h:=yieldsIf_load_mid (P:=P) (S:=SS) (op:=⟨some dst,.load ty (.tmp x),t2,p,af,gd⟩) (ops:=ops) hw ty (.tmp x) rfl b 0 hx A.toList dd (λw h=>u9 (hR w h) hA) hu hd (by grind[aj]);omega
end
theorem gx:fZ prog 107:=⟨⟨_,underlying107,rfl⟩,cm⟩
instance in6d1de :qD 107:=⟨gx⟩
def gm (p:Nat->Bool):Nat->Nat->Nat->Nat
 | 0,i,_=>i
 | f+1,i,j=>if i<j then(if p ((i+j) / 2)=true then gm p f i ((i+j) / 2) else gm p f ((i+j) / 2+1) j) else i
theorem vM (p:Nat->Bool): ∀(f g i j:Nat),j - i<=f->j - i<=g->gm p f i j=gm p g i j:=by
 intro f
 induction f with
 | zero=>
  intro g i j h1 h2;have hn: ¬i<j:=au;cases g with
  | zero=>rfl
  | succ g=>unfold gm;grind
 | succ f ih=>
  intro g i j h1 h2;cases g with
  | zero=>grind
  | succ g=>
   unfold gm
   grind
def AH (p:Nat->Bool) (n:Nat):Nat:=gm p n 0 n
theorem D9 (p:Nat->Bool)(h:i<j):gm p (j - i) i j=if p ((i+j) / 2)=true then gm p ((i+j) / 2 - i) i ((i+j) / 2) else gm p (j - ((i+j) / 2+1)) ((i+j) / 2+1) j:=by
 obtain⟨f,hf⟩: ∃f,j - i=f+1:=⟨j - i - 1,au⟩;rw[hf];show(if i<j then _ else _)=_;rw[bC h,vM p f ((i+j) / 2 - i) i _ au au,vM p f (j - ((i+j) / 2+1)) _ j au au]
theorem Iu (p:Nat->Bool): ∀(f i j:Nat),i<=j->gm p f i j<=j:=by
 intro f
 induction f<;>grind[gm]
theorem Qn (p:Nat->Bool)(n:Nat)(hn:n<=1000000000)(g:Nat)(cb:iw)(w:aD)(eg: ∀args w,(callFunc g args).run prog w=.ok (.enter g args) w)(hc: ∀k W,k<n->dp w W->Calls prog g (#[.int .i64 k]++cb) W λe w'=>e=.returned (.bool (p k))/\dp W w'):
 yr 234 #[.int .i64 n,.func (.func g) #[] cb] w (.int .i64 (AH p n:Nat)):=by
 have HC:=ae hc;clear hc;have S:=ae (ug w);go_enter func234,ntmps234
 go_wp2_with fail
 go_loopw [5,6] (λx y wr=>∃i j:Nat,i<=j/\j<=n/\x=.int .i64 i/\y=.int .i64 j/\Hid (AH p n=gm p (j - i) i j/\St w none [] [] [] (λ_ _=>True) wr)) (λx y _=>(intOf y).toNat - (intOf x).toNat)
 case atStart=>exact⟨0,n,au,by omega,rfl,rfl,rfl,S.o⟩
 case round=>
  clear S;obtain⟨i,j,hij,hj,rfl,rfl,hS⟩:=hrel;by_cases hlt:i<j
  . obtain⟨hse,S⟩:=hS.o;clear hS;rw[D9 p hlt] at hse;obtain⟨m,hm⟩:=cM ((i+j) / 2);rw[hm] at hse;have hmi:i<=m/\m<j:=au;have HSE:=ae hse;have w1:IntKind.i64.wrap ((i:Int)+ (j:Int))=(((i+j:Nat):Nat):Int):=by rw[mT _ au];omega
    have w2:IntKind.u64.wrap (((i+j:Nat):Nat):Int)=(((i+j:Nat):Nat):Int):=D4 _ au;have hmz: ((i:Int)+ (j:Int)) / 2=(m:Int):=au;have w3:IntKind.i64.wrap ((m:Nat):Int)=(m:Int):=mT _ au;have C1:=ae λW hb=>HC.o m W au hb;clear hse;rcases hp:p m with _ | _
    rotate_left
    all_goals
     rw[hp] at C1 HSE
     go_wp2_with fail
     refine(C1.o _ S.b).mono ?_;rintro e W ⟨rfl,hb⟩;replace S:=ae (And.intro HSE.o (S.below hb));go_wp2;go_roundw
     case rel=>first | exact⟨m+1,j,au,by omega,by go_num,rfl,S⟩ | exact⟨i,m,au,by omega,rfl,rfl,S⟩
     case measure=>exact uO
  . obtain rfl:i=j:=au;obtain⟨hse,S⟩:=hS.o;rw[Nat.sub_self] at hse;have hv:AH p n=i:=hse;have HV:=ae hv;clear hS hse hv;go_wp2;go_ret;exact⟨by rw[HV.o];rfl,S.b⟩
theorem Nq (l:List aq)(q:aq)(v:bh)(E2 E3:Nat)(w:aD)(h2:ag w E2 107 1 (λ_=>v))(h3:ag w E3 106 3 (aN q))(R:fM w v l)(hk:k<l.length)(hl:l.length<=1000000000):
 yr 235 #[.int .i64 k,.pointer (some ⟨E2,0,none⟩),.pointer (some ⟨E3,0,none⟩)] w (.bool (!mQ (l.getD k hole) q)):=by
 obtain⟨ao,cap,rfl,hcap,hao⟩:=aR R;obtain⟨b,o,rfl⟩:=hao au;have R:=ae R;have H2:=ae h2;have H3:=ae h3;obtain⟨p,hp⟩:=cM (l[k]);rw[EF hk,hp];obtain⟨A,hA⟩:=gq (ah 3 (aN p));obtain⟨B,hB⟩:=gq (ah 3 (aN q));have hsub:=ae (fF l hk (A:=A) (by rw[hp];exact hA));have C1:=ae (KX p q A B hA hB);have HA:=ae hA;have HB:=ae hB;have S:=ug w;clear h2 h3 hp hA hB hao;generalize mQ p q=r at C1 ⊢;go_enter func235,ntmps235
 go_upto_region 1 with(fail)
 refine bL S cm λW S=>?_;refine gY 0 5 (.slice (s_ b o) l.length cap) rfl (bP (b:=E2) (o:=0) (λw h=>by obtain⟨_,S⟩:=h;exact ag.cell (ag.below H2.o S.b) (i:=0) au) rfl gx) ?_;refine bp 1 6 _ ?_;refine bp 2 7 (bZ b (o+k*3)) ?_;refine gY 3 8 (.agg A) rfl (UO (λw h=>by obtain⟨_,S⟩:=h;exact R.o.below S.b) hk rfl (DW HA) hsub.o bd) ?_;refine gY 4 9 (.agg B) rfl (lq (λw h=>by obtain⟨_,S⟩:=h;exact ag.below H3.o S.b) rfl HB.o bd) ?_;refine mO 5 λK hK=>?_
 go_wp2_with fail
 refine je S (C1.o _) λW S=>?_;refine gM hK ?_;refine bp 6 11 (.bool !r) ?_;refine bp 7 4 _ ?_;refine uy ?_;go_wp2;go_ret;exact⟨rfl,S.b⟩
def zM (P:pw) (t:dD) (z:Nat):Prop:=P.underlying t=some (.slice (P.elem t))/\∀W,(sizeOf (P.elem t)).run P W=.ok z W
section
variable {x:Nat}
theorem rU {t:dD}(h:zM P t z)(v:bh)(lo hi mx:Option bh)(W:aD): (Instr.sliceAt t v lo hi mx).run P W=(Instr.slice t v lo hi mx).run P W:=by
 unfold Instr.sliceAt;rw[py,D7 h.1 W];rfl
theorem FR {t:dD} {z:Nat} (h:zM P t z) (ao:Option Addr) (n c y:Nat) (hn:y<=n) (W:aD): (Instr.sliceAt t (.slice ao n c) (some (.int .i64 y)) none none).run P W=.ok (.slice (fD ao c y z) (n - y) (c - y)) W:=by
 rw[rU h,run_slice_l W t ao n c h.1 .i64 (y:Nat) au au,h.2];rfl
theorem Wk {t:dD} {z:Nat} (h:zM P t z) (ao:Option Addr) (n c y:Nat) (hy:y<=c) (W:aD): (Instr.sliceAt t (.slice ao n c) none (some (.int .i64 y)) none).run P W=.ok (.slice ao y c) W:=by
 rw[rU h,run_slice_h W t ao n c h.1 .i64 (y:Nat) au au,h.2];simp only[Result.andThen,sliced,BQ,EY];rcases Hy c with rfl | h
 . rfl
 simp_all[Addr.add]
theorem ej (dst:Nat)(ty:dD)(x:Nat){lo hi mx:Option Operand}(h:wpList P ops Q (⟨some dst,.slice ty (.tmp x) lo hi mx,t2,p,af,none⟩::rest) a w):wpList P ops Q (⟨some dst,.slice ty (.tmp x) lo hi mx,t2,p,af,none⟩::rest) a w:=h
theorem Nr (hs:zM P ty z)(hx:a.eval (.tmp x)=.slice ao n c)(hh:a.eval hi=.int .i64 y)(hy:y<=c)(h:wpList P ops Q rest (a.put (some dst) (.slice ao y c)) w):
 wpList P ops Q (⟨some dst,.slice ty (.tmp x) none (some hi) none,t2,p,af,none⟩::rest) a w:=
 iV rfl ty (.tmp x) none (some hi) none rfl _ (by grind[Wk]) h
theorem qn (hs:zM P ty z)(hx:a.eval (.tmp x)=.slice ao n c)(hh:a.eval lo=.int .i64 y)(hy:y<=n)(h:wpList P ops Q rest (a.put (some dst) (.slice (fD ao c y z) (n - y) (c - y))) w):
 wpList P ops Q (⟨some dst,.slice ty (.tmp x) (some lo) none none,t2,p,af,none⟩::rest) a w:=
 iV rfl ty (.tmp x) (some lo) none none rfl _ (by grind[FR]) h
end
theorem ar.take (h:ar w e z (.slice ao n c) n xs)(hi:i<=n):ar w e z (.slice ao i c) i (xs.take (i*z)):=by
 obtain⟨h1,ao',cap,h2,h3,h4,h5⟩:=h;simp only[mA] at h2;obtain⟨rfl,-,rfl⟩:=h2;have hle:=Sy z hi;refine⟨by grind,ao,c,rfl,au,h4,λhn=>?_⟩
 grind
theorem ar.vN (h:ar w e z (.slice ao n c) n xs)(hi:i<=n):ar w e z (.slice (fD ao c i z) (n - i) (c - i)) (n - i) (xs.drop (i*z)):=by
 obtain⟨h1,ao',cap,h2,h3,h4,h5⟩:=h;simp only[mA] at h2;obtain⟨rfl,-,rfl⟩:=h2;refine⟨by grind[Nat.sub_mul],_,_,rfl,au,by omega,λhn=>?_⟩;obtain⟨b,o,cs,fl,rfl,hh,hc⟩:=h5 au;refine⟨b,o+i*z,cs,fl,CY b o c i z au,hh,λj u hj=>?_⟩
 grind
theorem x5 (l:List aq)(i:Nat): (eo l).take (i*3)=eo (l.take i):=by
 induction l generalizing i with
 | nil=>simp[eo]
 | cons p l ih=>
  cases i with
  | zero=>simp[eo]
  | succ i=>
   rw[take_succ_cons,ru,ru,take_append,rT,<-ih i,tX (by rw[rT];omega),show(i+1)*3 - 3=i*3 by omega]
theorem x6 (l:List aq)(i:Nat): (eo l).drop (i*3)=eo (l.drop i):=by
 induction l generalizing i with
 | nil=>simp[eo]
 | cons p l ih=>
  cases i with
  | zero=>simp
  | succ i=>
   rw[drop_succ_cons,ru,drop_append,rT,<-ih i,drop_of_length_le (by rw[rT];omega),show(i+1)*3 - 3=i*3 by omega,wv]
theorem x7:zM prog 107 3:=⟨cm,λW=>by rfl⟩
def Ns (l:List aq) (q:aq):Nat:=AH (λk=>!mQ (l.getD k hole) q) l.length
def nI (l:List aq) (q:aq):Option (List aq):=
 if vL q=false then none else
 if Ns l q<l.length/\l.getD (Ns l q) hole=q then none else
 some (l.take (Ns l q)++q::l.drop (Ns l q))
theorem Wl {l:List aq}{q:aq}(hi:i<=l.length)(h:w.ownsRow base 106 3 v n (([]++(eo l).take (i*3))++(ah 3 (aN q)).toList++(eo l).drop (i*3))):dh w base v ((some (l.take i++q::l.drop i)).getD []):=by
 show World.ownsRow _ _ _ _ _ (l.take i++q::l.drop i).length (eo (l.take i++q::l.drop i));have e1:eo (l.take i++q::l.drop i)=([]++(eo l).take (i*3))++(ah 3 (aN q)).toList++(eo l).drop (i*3):=by
  rw[dU,ru,x5,x6,wv,Hh];rfl
 have e2: (l.take i++q::l.drop i).length=n:=by
  have:=h.1
  grind[rO]
 grind
theorem Nt (l:List aq)(q:aq)(v:bh)(A:iw)(hA:A=ah 3 (aN q))(w:aD)(hl:l.length<=100000000)(R:fM w v l):
 Calls prog 186 #[v,.agg A] w λe w'=>∃r,e=.returned (.tuple #[r,.int .i64 (codeF 131 (nI l q))])/\dh w' w.heap.size r ((nI l q).getD [])/\dp w w':=by
 obtain⟨ao,cap,rfl,hcap,hao⟩:=aR R;have R:=ae R;have HA:=ae hA;have C2:=ae (Nn q A hA);have S:=ug w;obtain⟨i,hi⟩:=cM (Ns l q);have hil:i<=l.length:=by rw[<-hi];exact Iu _ _ _ _ (kf _)
 have hda:nI l q=if vL q=false then none else if i<l.length/\l.getD i hole=q then none else some (l.take i++q::l.drop i):=by unfold nI;rw[hi]
 have HDA:=ae hda;have hi':AH (λk=>!mQ (l.getD k hole) q) l.length=i:=hi;have eg: ∀args w,(callFunc 235 args).run prog w=.ok (.enter 235 args) w:=enters_of func235 cm rfl;have C1:=ae λ(cb:iw) W hc=>Qn (λk=>!mQ (l.getD k hole) q) l.length au 235 cb W eg hc;rw[hi'] at C1;clear hA hda hi hi' eg hao;go_enter func186,ntmps186
 go_upto_region 2 with(first|(go_at_call 234;have hE:=λ(k:Nat) (W':aD) (hk:k<l.length) hb=>Nq l q (.slice ao l.length cap) _ _ W' (ag.below S.k1 hb) (ag.below S.k0 hb) ((R.o.below S.b).below hb) hk au;refine(C1.o #[bZ _ 0,bZ _ 0] _ hE).mono ?_;clear hE;rintro e W ⟨rfl,hb⟩;replace S:=S.below hb)|refine fN ?_|refine ew λW S=>?_)
 cases hf:vL q with
 | false=>
  rw[hf] at C2;have HN:Hid (nI l q=none):=ae (by rw[HDA.o,bC hf]);clear hf;refine bL S cm λW S=>?_;refine bp 0 12 (.agg A) ?_;refine mO 1 λK hK=>?_
  go_wp2_with fail
  refine je S (C2.o _) λW S=>?_;refine gM hK ?_;refine bp 2 14 (.bool true) ?_;refine bp 3 15 _ ?_;refine vX 4 16 ?_;refine vX 5 17 ?_;refine vX 6 18 ?_;refine vX 7 19 ?_;refine vX 8 20 ?_;refine vX 9 21 ?_;refine vX 10 22 ?_;refine vX 11 23 ?_;refine vX 12 24 ?_;refine vX 13 25 ?_;refine vX 14 26 ?_;refine vX 15 27 ?_;refine bp 16 28 (.bool true) ?_;refine uy ?_;go_wp2;go_ret2;exact⟨_,by rw[HN.o];rfl,by rw[HN.o];exact ju _ _ _ _,S.b⟩
 | true=>
  rw[hf] at C2 HDA;rw[bX fh] at HDA;clear hf;by_cases hin:i<l.length
  . obtain⟨b,o,rfl⟩: ∃b o,ao=s_ b o:=by
     obtain⟨_,_,e1,_,h⟩:=aR R.o
     grind
    obtain⟨p,hp⟩:=cM (l[i]);obtain⟨B,hB⟩:=gq (ah 3 (aN p));have hsub:=ae (fF l hin (A:=B) (by rw[hp];exact hB));rw[EF hin,hp] at HDA;obtain⟨e,he⟩:=cM (decide (p=q));have hq:=zz p q e he;rw[az hB,az HA.o] at hq;have HQ:=ae hq;have HB:=ae hB;clear hq hB hp;cases e with
    | true=>
     have HN:Hid (nI l q=none):=ae (by rw[HDA.o,bC ⟨hin,lK he⟩]);clear he;refine bL S cm λW S=>?_;refine bp 0 12 (.agg A) ?_;refine mO 1 λK hK=>?_
     go_wp2_with fail
     refine je S (C2.o _) λW S=>?_;refine gM hK ?_;refine bp 2 14 (.bool false) ?_;refine bp 3 15 _ ?_;refine bp 4 16 _ ?_;refine bp 5 17 (.slice (s_ b o) l.length cap) ?_;refine bp 6 18 (.int .i64 l.length) ?_;refine gY 7 19 (.bool true) rfl (Or.inl ⟨cm,λw hw=>by have h0: (i:Int)< (l.length:Int):=au;go_simp⟩) ?_;refine bp 8 20 _ ?_;refine bp 9 21 (.slice (s_ b o) l.length cap) ?_;refine bp 10 22 _ ?_;refine bp 11 23 (bZ b (o+i*3)) ?_;refine gY 12 24 (.agg B) rfl (UO (λw h=>by obtain⟨_,S⟩:=h;exact R.o.below S.b) hin rfl (DW HB) hsub.o bd) ?_;refine bp 13 25 (.agg A) ?_;refine gY 14 26 (.bool true) rfl (Or.inl ⟨cm,λw hw=>by have h0:=HQ.o;go_simp⟩) ?_;refine bp 15 27 (.bool true) ?_;refine bp 16 28 (.bool true) ?_;refine uy ?_;go_wp2;go_ret2;exact⟨_,by rw[HN.o];rfl,by rw[HN.o];exact ju _ _ _ _,S.b⟩
    | false=>
     have HN:Hid (nI l q=some (l.take i++q::l.drop i)):=ae (by rw[HDA.o,bX (λh=>wx he h.2)]);clear he;refine bL S cm λW S=>?_;refine bp 0 12 (.agg A) ?_;refine mO 1 λK hK=>?_
     go_wp2_with fail
     refine je S (C2.o _) λW S=>?_;refine gM hK ?_;refine bp 2 14 (.bool false) ?_;refine bp 3 15 _ ?_;refine bp 4 16 _ ?_;refine bp 5 17 (.slice (s_ b o) l.length cap) ?_;refine bp 6 18 (.int .i64 l.length) ?_;refine gY 7 19 (.bool true) rfl (Or.inl ⟨cm,λw hw=>by have h0: (i:Int)< (l.length:Int):=au;go_simp⟩) ?_;refine bp 8 20 _ ?_;refine bp 9 21 (.slice (s_ b o) l.length cap) ?_;refine bp 10 22 _ ?_;refine bp 11 23 (bZ b (o+i*3)) ?_;refine gY 12 24 (.agg B) rfl (UO (λw h=>by obtain⟨_,S⟩:=h;exact R.o.below S.b) hin rfl (DW HB) hsub.o bd) ?_;refine bp 13 25 (.agg A) ?_;refine gY 14 26 (.bool false) rfl (Or.inl ⟨cm,λw hw=>by have h0:=HQ.o;go_simp⟩) ?_;refine bp 15 27 (.bool false) ?_;refine bp 16 28 (.bool false) ?_;refine uy ?_
     go_wp2_with (first
   |((with_reducible refine qm 32 107 ?_);refine Dp S (n:=l.length+1) cN rfl (by rw[Int.natCast_add];rfl) au BM rfl rfl λg W S=>?_)
   |((with_reducible refine ej 36 107 34 ?_);refine Nr x7 rfl rfl (kL hil hcap) ?_)
   |((with_reducible refine bN 37 33 36 ?_);refine zL S 0 rfl (by':=24) rfl rfl (ar.take (R.o.below S.b) hil) cN (by rw[x5];exact jY _) JW BM λv1 W S=>?_)
   |((with_reducible refine bN 41 38 40 ?_);refine lZ S 0 rfl 0 rfl rfl rfl rfl cN (aE _) JW BM λg9 c9 W S=>?_)
   |((with_reducible refine ej 45 107 43 ?_);refine qn x7 rfl rfl hil ?_)
   |((with_reducible refine bN 46 42 45 ?_);refine zL S 0 rfl (by':=24) (by show Value.slice (s_ g9 0) (i+1) c9=Value.slice (s_ g9 0) (0+i+1) c9;rw[rC]) rfl (ar.vN (R.o.below S.b) hil) cN (by rw[x6];exact jY _) JW BM λv2 W S=>?_)
   |refine fN ?_
   |refine ew λW S=>?_)
     go_ret2;exact⟨_,by rw[HN.o];rfl,by rw[HN.o];exact Wl hil S.o0,S.b⟩
  . have HN:Hid (nI l q=some (l.take i++q::l.drop i)):=ae (by rw[HDA.o,bX (λh=>hin h.1)]);refine bL S cm λW S=>?_;refine bp 0 12 (.agg A) ?_;refine mO 1 λK hK=>?_
    go_wp2_with fail
    refine je S (C2.o _) λW S=>?_;refine gM hK ?_;refine bp 2 14 (.bool false) ?_;refine bp 3 15 _ ?_;refine bp 4 16 _ ?_;refine bp 5 17 (.slice ao l.length cap) ?_;refine bp 6 18 (.int .i64 l.length) ?_;refine gY 7 19 (.bool false) rfl (Or.inl ⟨cm,λw hw=>by have h0: ¬(i:Int)< (l.length:Int):=au;go_simp⟩) ?_;refine bp 8 20 _ ?_;refine vX 9 21 ?_;refine vX 10 22 ?_;refine vX 11 23 ?_;refine vX 12 24 ?_;refine vX 13 25 ?_;refine vX 14 26 ?_;refine bp 15 27 (.bool false) ?_;refine bp 16 28 (.bool false) ?_;refine uy ?_
    go_wp2_with (first
   |((with_reducible refine qm 32 107 ?_);refine Dp S (n:=l.length+1) cN rfl (by rw[Int.natCast_add];rfl) au BM rfl rfl λg W S=>?_)
   |((with_reducible refine ej 36 107 34 ?_);refine Nr x7 rfl rfl (kL hil hcap) ?_)
   |((with_reducible refine bN 37 33 36 ?_);refine zL S 0 rfl (by':=24) rfl rfl (ar.take (R.o.below S.b) hil) cN (by rw[x5];exact jY _) JW BM λv1 W S=>?_)
   |((with_reducible refine bN 41 38 40 ?_);refine lZ S 0 rfl 0 rfl rfl rfl rfl cN (aE _) JW BM λg9 c9 W S=>?_)
   |((with_reducible refine ej 45 107 43 ?_);refine qn x7 rfl rfl hil ?_)
   |((with_reducible refine bN 46 42 45 ?_);refine zL S 0 rfl (by':=24) (by show Value.slice (s_ g9 0) (i+1) c9=Value.slice (s_ g9 0) (0+i+1) c9;rw[rC]) rfl (ar.vN (R.o.below S.b) hil) cN (by rw[x6];exact jY _) JW BM λv2 W S=>?_)
   |refine fN ?_
   |refine ew λW S=>?_)
    go_ret2;exact⟨_,by rw[HN.o];rfl,by rw[HN.o];exact Wl hil S.o0,S.b⟩
def Zn (c:Nat):Bool:=decide (97<=c/\c<=122)||decide (48<=c/\c<=57)||decide (c=45)||decide (c=95)
def cq (s:lf):Bool:=decide (1<=s.size/\s.size<=24)&& (range s.size).all λk=>Zn s[k]!.toNat
theorem AI (hk:k<s.size)(h:Zn s[k]!.toNat=false):cq s=false:=by
 unfold cq
 grind
theorem zN (w:aD)(s:lf)(p:Nat):dp w (w.iter s p):=(iU _ _).alloc (eO _) _
theorem nz (s:lf)(w:aD):yr 126 #[.string s] w (.bool (cq s)):=by
 by_cases h1:s.size<1
 . have hn:Hid (cq s=false):=ae (by unfold cq;rw[iE au];rfl);have g1: (s.size:Int)<1:=au;go_enter func126,ntmps126;go_wp2;go_ret;exact⟨by rw[hn.o];rfl,iU _ _⟩
 by_cases h2:24<s.size
 . have hn:Hid (cq s=false):=ae (by unfold cq;rw[iE au];rfl);have g1: ¬(s.size:Int)<1:=au;have g2: (24:Int)< (s.size:Int):=au;go_enter func126,ntmps126;go_wp2;go_ret;exact⟨by rw[hn.o];rfl,iU _ _⟩
 have g1: ¬(s.size:Int)<1:=au;have g2: ¬(24:Int)< (s.size:Int):=au;have hb:=ae (And.intro h1 h2);clear h1 h2;go_enter func126,ntmps126;go_wp2
 go_loopw [] (λwr=>∃pos:Nat,pos<=s.size/\wr=w.iter s pos/\Hid (∀j,j<pos->Zn s[j]!.toNat=true)) (λwr=>s.size - wr.iterPos w.heap.size)
 case atStart=>exact⟨0,au,rfl,λj hj=>absurd hj (ES _)⟩
 case round=>
  obtain⟨pos,hpl,rfl,hS⟩:=hrel;by_cases hp:pos<s.size
  . have hnx: ∀ty,(Instr.next (bZ w.heap.size 0) true ty).run prog (w.iter s pos)=_:=λty=>run_next_any w s pos ty hp;obtain⟨c,hc⟩:=cM (s[pos]!.toNat);have hcg: (s[pos]'hp).toNat=c:=by rw[<-hc,getElem!_pos s pos hp]
    by_cases ha:c<128
    . rw[decode_ascii s pos hp (by rw[hcg];exact ha)] at hnx;rw[hcg] at hnx;cases ho:Zn c with
      | true=>
       have hS2:Hid (∀j,j<pos+1->Zn s[j]!.toNat=true):=ae λj hj=>by
        rcases Ml.1 hj with h | rfl
        . exact hS.o j h
        . rw[hc];exact ho
       clear hcg hc;unfold Zn at ho;simp only[Bool.or_eq_true,yy] at ho;have HO:=ae ho;clear ho;go_wp2
       all_goals first
        |(go_roundw
          case rel=>exact⟨pos+1,au,rfl,hS2⟩
          case measure=>simp;omega)
        |(exfalso;have ho:=HO.o;simp only[k',ne_eq] at*;omega)
      | false=>
       have hn:Hid (cq s=false):=ae (AI hp (by rw[hc];exact ho));clear hcg hc;unfold Zn at ho;simp only[Bool.or_eq_false_iff,decide_eq_false_iff_not] at ho;have HO:=ae ho;clear ho;go_wp2
       all_goals first|(go_ret;exact⟨by rw[hn.o];rfl,zN _ _ _⟩)|(exfalso;have ho:=HO.o;simp only[Em] at*;omega)
    . have hd:=(decode_high s pos hp (by rw[hcg];omega)).1;have hn:Hid (cq s=false):=ae (AI hp (by rw[hc];unfold Zn;simp;omega));generalize Utf8.decode s pos=x at hnx hd;obtain⟨r,u⟩:=x;simp only at hnx hd;clear hcg hc;go_wp2
      all_goals first|(go_ret;exact⟨by rw[hn.o];rfl,zN _ _ _⟩)
  . obtain rfl:pos=s.size:=au;have hnx: ∀ty,(Instr.next (bZ w.heap.size 0) true ty).run prog (w.iter s s.size)=_:=λty=>run_next_end w s s.size ty hp;have hn:Hid (cq s=true):=ae (by
     unfold cq;rw[Jh,Ak];refine⟨ly (by have:=hb.o;omega),λk hk=>hS.o k (List.mem_range.1 hk)⟩)
    go_wp2;go_ret;exact⟨by rw[hn.o];rfl,zN _ _ _⟩
def Su:lf:=⟨#[64]⟩
def ov:lf:=⟨#[]⟩
def jC (vol snap:lf):lf:=
 if cq vol=false then ov else if snap=ov then vol else if cq snap=false then ov else vol++Su++snap
theorem iq {s:lf} (h:cq s=true):s.size<=24:=by
 simp_all[cq]
theorem qp (h:s≠ov):s.toList.isEmpty=false:=by
 rw[Iv,Ve];intro h2;apply h;obtain⟨d⟩:=s
 grind[ov]
theorem AJ (vol snap:lf)(hs:snap.size<=1000)(w:aD):yr 104 #[.string vol,.string snap] w (.string (jC vol snap)):=by
 have C1:=ae λw=>nz vol w;have C2:=ae λw=>nz snap w;have S:=ug w;cases h1:cq vol with
 | false=>
  rw[h1] at C1;have HN:Hid (jC vol snap=ov):=ae (by unfold jC;rw[bC h1]);clear h1;go_enter func104,ntmps104
  go_wp2_with (go_at_call 126;refine je S (C1.o _) λW S=>?_)
  go_ret;exact⟨by rw[HN.o];rfl,S.b⟩
 | true=>
  rw[h1] at C1;by_cases h2:snap=ov
  . have HN:Hid (jC vol snap=vol):=ae (by unfold jC;rw[bX (by rw[h1];simp),bC h2]);subst h2;clear h1;unfold ov;go_enter func104,ntmps104
    go_wp2_with (go_at_call 126;refine je S (C1.o _) λW S=>?_)
    go_ret;exact⟨by rw[show jC vol ⟨#[]⟩=vol from HN.o];rfl,S.b⟩
  . have he:=qp h2;cases h3:cq snap with
    | false=>
     rw[h3] at C2;have HN:Hid (jC vol snap=ov):=ae (by unfold jC;rw[bX (by rw[h1];simp),bX h2,bC h3]);clear h1 h3 h2;go_enter func104,ntmps104
     go_wp2_with (first
   |(go_at_call_has 126 snap;refine je S (C2.o _) λW S=>?_)
   |(go_at_call 126;refine je S (C1.o _) λW S=>?_))
     go_ret;exact⟨by rw[HN.o];rfl,S.b⟩
    | true=>
     rw[h3] at C2;have HN:Hid (jC vol snap=vol++Su++snap):=ae (by unfold jC;grind);have g1: ¬9223372036854775807<vol.size+1:=by have:=iq h1;omega
     have g2: ¬9223372036854775807<vol.size+1+snap.size:=by have:=iq h1;have:=iq h3;omega
     clear h1 h3 h2;go_enter func104,ntmps104
     go_wp2_with (first
   |(go_at_call_has 126 snap;refine je S (C2.o _) λW S=>?_)
   |(go_at_call 126;refine je S (C1.o _) λW S=>?_))
     go_ret;exact⟨by rw[HN.o];rfl,S.b⟩
theorem Iw (s:lf)(c:Int)(w:aD):Calls prog 263 #[.string s,.int .u8 c] w λe w'=>e=.returned (.int .i64 (firstIdx s c.toNat.toUInt8))/\w=w':=by
 have hx: ∀w,(callFunc 282 #[.string s,.int .u8 c]).run prog w=.ok (.value (.int .i64 (firstIdx s c.toNat.toUInt8))) w:=by
  intro w;rw[run_callFunc_extern func282 cm cm cm (e:=Extern.BytealgIndexByte.indexByte) cm,run_indexByte_string];rfl
 generalize firstIdx s c.toNat.toUInt8=r at hx ⊢;go_enter func263,ntmps263;go_wp2;go_ret;exact⟨rfl,rfl⟩
def atIdx (s:lf):Int:=firstIdx s 64
theorem Qo:atIdx Su=0:=by rfl
theorem TK (h:s≠Su): ([(64:UInt8)]==s.toList)=false:=by
 rw[Iv,k'];intro h2;apply h
 simp_all[Su]
theorem TL (s:lf)(w:aD):Calls prog 231 #[.string s,.string Su] w λe w'=>e=.returned (.int .i64 (atIdx s))/\w=w':=by
 by_cases hs:s=Su
 . subst hs;rw[Qo];unfold Su;go_enter func231,ntmps231
   go_wp2_with fail
   all_goals go_ret
   all_goals exact⟨rfl,rfl⟩
 . have C1:=ae λw=>Iw s 64 w;rw[show firstIdx s (64:Int).toNat.toUInt8=atIdx s from rfl] at C1;generalize atIdx s=r at C1 ⊢;have hl:=TK hs;clear hs;unfold Su;go_enter func231,ntmps231
   go_wp2_with (go_at_call 263;refine qJ (C1.o _) ?_)
   go_ret;exact⟨rfl,rfl⟩
theorem Nu (s:lf): -1<=atIdx s/\atIdx s< (s.size:Int):=by
 grind[atIdx,firstIdx]
def tJ (s:lf):lf×lf×Bool:=
 if 0<=atIdx s then(s.extract 0 (atIdx s).toNat,s.extract ((atIdx s).toNat+1) s.size,true) else(s,ov,false)
theorem Qp (s:lf)(hs:s.size<=1000000)(w:aD):yr 174 #[.string s,.string Su] w (.tuple #[.string (tJ s).1,.string (tJ s).2.1,.bool (tJ s).2.2]):=by
 have C1:=ae λw=>TL s w;have hr:=Nu s;have S:=ug w;by_cases h0:0<=atIdx s
 . obtain⟨i,hi⟩: ∃i:Nat,atIdx s=i:=⟨(atIdx s).toNat,au⟩;have HC:Hid (tJ s=(s.extract 0 i,s.extract (i+1) s.size,true)):=ae (by unfold tJ;rw[bC h0,hi];rfl);have hil:i<s.size:=au;rw[hi] at C1;clear hr h0 hi;unfold Su at C1 ⊢;go_enter func174,ntmps174
   go_upto_region 3 with(go_at_call 231;refine qJ (C1.o _) ?_)
   refine bL S cm λW S=>?_;refine bp 0 13 _ ?_;refine bp 1 14 _ ?_;refine gY 2 15 (.string (s.extract 0 i)) rfl (Or.inl ⟨cm,λw hw=>by have h0:i<=s.size:=au;go_simp⟩) ?_;refine bp 3 16 _ ?_;refine bp 4 17 _ ?_;refine bp 5 18 _ ?_;refine bp 6 19 (.int .i64 1) ?_;refine gY 7 20 (.int .i64 ((i:Int)+1)) rfl (Or.inl ⟨cm,λw hw=>by have h0:IntKind.i64.wrap ((i:Int)+1)=(i:Int)+1:=mT _ au;go_simp⟩) ?_;refine gY 8 21 (.string (s.extract (i+1) s.size)) rfl (Or.inl ⟨cm,λw hw=>by have h0: ¬((s.size:Int)< (i:Int)+1):=au;have h2: ((i:Int)+1).toNat=i+1:=au;have h3: ¬((i:Int)+1<0):=au;go_simp⟩) ?_;refine bp 9 4 _ ?_;refine bp 10 5 _ ?_;refine bp 11 6 _ ?_;refine uy ?_;go_wp2;go_ret3;exact⟨by rw[HC.o];rfl,S.b⟩
 . have HC:Hid (tJ s=(s,ov,false)):=ae (by unfold tJ;rw[bX h0]);have hi:atIdx s= -1:=au;rw[hi] at C1;clear hr h0 hi;unfold Su at C1 ⊢;go_enter func174,ntmps174
   go_wp2_with (go_at_call 231;refine qJ (C1.o _) ?_)
   go_ret3;exact⟨by rw[HC.o];rfl,S.b⟩
theorem Qq (s:lf)(hs:s.size<=1000000)(w:aD):yr 125 #[.string s,.string Su] w (.tuple #[.string (tJ s).1,.string (tJ s).2.1,.bool (tJ s).2.2]):=by
 have C1:=ae (Qp s hs);obtain⟨⟨a,b,c⟩,hc⟩: ∃x,tJ s=x:=⟨_,rfl⟩;rw[hc] at C1 ⊢;clear hc;have S:=ug w;go_enter func125,ntmps125
 go_wp2_with (go_at_call 174;refine je S (C1.o _) λW S=>?_)
 go_ret3;exact⟨rfl,S.b⟩
def dQ (s:lf):Option (lf×lf):=
 if cq (tJ s).1=false∨((tJ s).2.2=true/\cq (tJ s).2.1=false) then none else some ((tJ s).1,(tJ s).2.1)
theorem nA (s:lf)(hs:s.size<=1000000)(w:aD):yr 63 #[.string s] w (.tuple #[.string ((dQ s).getD (ov,ov)).1,.string ((dQ s).getD (ov,ov)).2,.int .i64 (codeF 141 (dQ s))]):=by
 have C1:=ae (Qq s hs);unfold Su at C1;obtain⟨⟨a,b,c⟩,hc⟩: ∃x,tJ s=x:=⟨_,rfl⟩;have hn:dQ s=if cq a=false∨(c=true/\cq b=false) then none else some (a,b):=by unfold dQ;rw[hc]
 rw[hc] at C1;clear hc;have C2:=ae λw=>nz a w;have C3:=ae λw=>nz b w;have S:=ug w;rcases ha:cq a with _ | _;rw[ha] at C2;rw[bC (.inl ha)] at hn
 rotate_left
 rw[ha] at C2 hn;rcases c with _ | _;rw[bX fh] at hn
 rotate_left
 . rcases hb:cq b with _ | _
   rotate_left
   all_goals
    rw[hb] at C3 hn
    first | rw[bC (.inr ⟨rfl,rfl⟩)] at hn | rw[bX fh] at hn
    rw[hn];clear ha hb hn;go_enter func63,ntmps63
    go_wp2_with (first
   |(go_at_call 125;refine je S (C1.o _) λW S=>?_)
   |(go_at_call_has 126 a;refine je S (C2.o _) λW S=>?_)
   |(go_at_call 126;refine je S (C3.o _) λW S=>?_))
    go_ret3;exact⟨rfl,S.b⟩
 all_goals
  rw[hn];clear ha hn;go_enter func63,ntmps63
  go_wp2_with (first|(go_at_call 125;refine je S (C1.o _) λW S=>?_)|(go_at_call 126;refine je S (C2.o _) λW S=>?_))
  go_ret3;exact⟨rfl,S.b⟩
structure Still (Y:aK->aD->Prop):Prop where
 below: ∀{B w w'},Y B w->dp w w'->Y B w'
 add: ∀{B w b},Y B w->w.heap.size<=b->Y (b::B) w
 mono: ∀{B B' w},Y B w->(∀k∈B',k∈B)->Y B' w
 but: ∀{B w w' b},Y B w->b∈B->ek b w w'->Y B w'
 fr: ∀{B w w' d l},Y B w->Fr d l w w'->Y B w'
theorem cz (e:dD)(z:Nat)(v:bh)(n:Nat)(xs:List bh)(h1:fk e=false)(h2:df e=false):Still (qC e z v n xs):=
 ⟨λa b=>JT a b,λa b=>RK a b,λa b=>Na a b,λa b c=>RJ a b c,λa f=>V9 a f h1 h2⟩
theorem Still.and {Z:aK->aD->Prop}(h:Still Y)(g:Still Z):Still (λB w=>Y B w/\Z B w):=
 ⟨λa b=>⟨h.below a.1 b,g.below a.2 b⟩,λa b=>⟨h.add a.1 b,g.add a.2 b⟩,λa b=>⟨h.mono a.1 b,g.mono a.2 b⟩,λa b c=>⟨h.but a.1 b c,g.but a.2 b c⟩,λa f=>⟨h.fr a.1 f,g.fr a.2 f⟩⟩
theorem uz (s:List α){Y:α->aK->aD->Prop}(h: ∀x∈s,Still (Y x)):Still (λB w=>∀x∈s,Y x B w):=
 ⟨λa b x hx=>(h x hx).below (a x hx) b,λa b x hx=>(h x hx).add (a x hx) b,λa b x hx=>(h x hx).mono (a x hx) b,λa b c x hx=>(h x hx).but (a x hx) b c,λa f x hx=>(h x hx).fr (a x hx) f⟩
theorem gX.still (h:gX d X)(g:Still Y):gX d (λB w=>X B w/\Y B w):=
 ⟨λa b=>⟨h.below a.1 b,g.below a.2 b⟩,λa b=>⟨h.add a.1 b,g.add a.2 b⟩,λa b=>⟨h.mono a.1 b,g.mono a.2 b⟩,λa b c t u v=>⟨h.but a.1 b c t u v,g.but a.2 b c⟩,λa e=>h.dev a.1 e⟩
theorem Still.fs (g:Still Y):gX none Y:=⟨λa b=>g.below a b,λa b=>g.add a b,λa b=>g.mono a b,λa b c _ _ _=>g.but a b c,λ_ e=>by cases e⟩
structure cu where
 id:Nat
 name:lf
 snap:Bool
 owner:Nat
 prev:Nat
 ay:Nat
 blocks:Nat
 root:aq
 dead:List aq
structure aZ extends cu where
 bI:Option Addr
 cap:Nat
def aZ.dv (x:aZ):bh:=.slice x.bI x.dead.length x.cap
def dy (x:aZ):Nat->bh:=λi=>if i=0 then .int .u64 x.id else if i=1 then .string x.name else if i=2 then .bool x.snap else if i=3 then .int .u64 x.owner else if i=4 then .int .u64 x.prev else if i=5 then .int .u64 x.ay else if i=6 then .int .i64 x.blocks else if i<10 then aN x.root (i - 7) else x.dv
theorem cy (x:aZ): ∀i,(dy x i).oneCell'=true:=by
 intro i;unfold dy
 repeat' split
 all_goals first | rfl | exact aE _ _
instance in0da92 (x:aZ):OF (dy x):=⟨cy x⟩
instance in45727 (x:aZ):CV (dy x) 0 (.int .u64 x.id):=⟨rfl⟩
instance ine4247 (x:aZ):CV (dy x) 1 (.string x.name):=⟨rfl⟩
instance in84358 (x:aZ):CV (dy x) 2 (.bool x.snap):=⟨rfl⟩
instance ina7f67 (x:aZ):CV (dy x) 3 (.int .u64 x.owner):=⟨rfl⟩
instance in452fc (x:aZ):CV (dy x) 4 (.int .u64 x.prev):=⟨rfl⟩
instance inc831e (x:aZ):CV (dy x) 5 (.int .u64 x.ay):=⟨rfl⟩
instance in21e4d (x:aZ):CV (dy x) 6 (.int .i64 x.blocks):=⟨rfl⟩
instance in2b210 (x:aZ):CV (dy x) 10 (.slice x.bI x.dead.length x.cap):=⟨rfl⟩
def Mg (x:aZ):List bh:=(ah 11 (dy x)).toList
theorem uA (x:aZ): (Mg x).length=11:=by rfl
def dR (l:List aZ):List bh:=l.flatMap Mg
theorem iY (l:List aZ): (dR l).length=l.length*11:=tf uA l
theorem qq (l m:List aZ):dR (l++m)=dR l++dR m:=by grind[dR]
theorem Nv (x:aZ):dR [x]=Mg x:=by rfl
theorem TM (l:List aZ): ∀u∈dR l,u.oneCell'=true:=by
 intro u hu;unfold dR at hu;obtain⟨p,_,h⟩:=List.mem_flatMap.1 hu;unfold Mg at h;obtain⟨i,hi,rfl⟩:=Jo.1 h;rw[Array.getElem_toList];have h2: (ah 11 (dy p))[i]? =some (dy p i):=by rw[aF,bC (by grind[aj])]
 grind[cy]
def rV (w:aD) (x:aZ):Prop:=fM w x.dv x.dead
def cQ (w:aD) (v:bh) (l:List aZ):Prop:=ar w 109 11 v l.length (dR l)/\∀x∈l,rV w x
def Dq (x:aZ):aK->aD->Prop:=qC 106 3 x.dv x.dead.length (eo x.dead)
def rW (v:bh) (l:List aZ):aK->aD->Prop:=λB w=>qC 109 11 v l.length (dR l) B w/\∀x∈l,Dq x B w
theorem vh (x:aZ):Still (Dq x):=cz 106 3 _ _ _ rfl rfl
theorem fx (v:bh)(l:List aZ):Still (rW v l):=(cz 109 11 v _ _ rfl rfl).and (uz l λx _=>vh x)
theorem rW.sl {l:List aZ}(h:rW v l B w):cQ w v l:=⟨h.1.1,λx hx=>(h.2 x hx).1⟩
theorem cQ.x {l:List aZ}(h:cQ w v l):rW v l [] w:=⟨⟨h.1,λ_ _ _=>by simp⟩,λx hx=>⟨h.2 x hx,λ_ _ _=>by simp⟩⟩
theorem cQ.below {l:List aZ}(h:cQ w v l)(s:dp w w'):cQ w' v l:=((fx v l).below h.x s).sl
theorem cQ.fr {d:Option Nat} {b:aK} {w w':aD} {v:bh} {l:List aZ} (h:cQ w v l) (s:Fr d b w w'):cQ w' v l:=((fx v l).fr h.x s).sl
def mH (w:aD) (base:Nat) (x:aZ):Prop:=rV w x/\(0<x.dead.length->∀b,x.dv.ownBlock=some b->base<=b)
theorem mH.of {x:aZ}(h:dh w base x.dv x.dead):mH w base x:=
 ⟨h.sl,λ_ b hb=>(h.lt b hb).1⟩
theorem mH.x {x:aZ}(h:mH w w0.heap.size x)(hB: ∀b∈B,b<w0.heap.size):Dq x B w:=
 ⟨h.1,λhn b hb hm=>Al _ (X0 (h.2 hn b hb) (hB b hm))⟩
def vi (w:aD) (base:Nat) (v:bh) (l:List aZ):Prop:=w.ownsRow base 109 11 v l.length (dR l)/\∀x∈l,mH w base x
theorem vi.sl {l:List aZ}(h:vi w base v l):cQ w v l:=⟨ar.aV h.1,λx hx=>(h.2 x hx).1⟩
theorem iN (l:List aZ)(hi:i<l.length)(hA:A=ah 11 (dy l[i])): ∀j,j<11->(dR l)[i*11+j]? =A[j]?:=by
 intro j hj;rw[hA];unfold dR;rw[flat_get uA l hi hj]
 grind[Mg]
def kQ (w:aD) (b o:Nat) (x:aZ):Prop:=∀k,k<11->w.cell? ⟨b,o+k,none⟩=some (dy x k)
theorem ar.cellAt {o:Nat}(h:ar w e z (.slice (some ⟨b,o,none⟩) n cap) n xs)(hn:0<n)(hj:xs[j]? =some u):w.cell? ⟨b,o+j,none⟩=some u:=by
 obtain⟨_,ao,cap',h2,_,_,h5⟩:=h;obtain⟨b',o',cs,fl,e1,hh,hc⟩:=h5 hn;simp only[mA] at h2;obtain⟨rfl,-,-⟩:=h2;cases e1<;>grind[cell_of_row]
theorem cQ.at {o:Nat}{l:List aZ}(h:cQ w (.slice (some ⟨b,o,none⟩) n cap) l){x:aZ}(hx:l[i]? =some x):kQ w b (o+i*11) x:=by
 intro k hk;obtain⟨hi,rfl⟩:=sy.1 hx;have h1:=h.1;obtain⟨_,ao,cap',h2,_⟩:=id h1;have hn:n=l.length:=by grind
 subst hn;rw[Vb];exact h1.cellAt au (by rw[iN l hi rfl k hk,aF,bC hk])
theorem kQ.below {o:Nat}{x:aZ}(h:kQ w b o x)(hb:dp w w'):kQ w' b o x:=λk hk=>hb.cell (vG (h k hk)) |>.trans (h k hk)
section
variable {o:Nat}{x:aZ}
theorem kQ.c0 (h:kQ w b o x):w.cell? ⟨b,o,none⟩=some (.int .u64 x.id):=h 0 au
theorem kQ.c1 (h:kQ w b o x):w.cell? ⟨b,o+1,none⟩=some (.string x.name):=h 1 au
theorem kQ.c2 (h:kQ w b o x):w.cell? ⟨b,o+2,none⟩=some (.bool x.snap):=h 2 au
theorem kQ.c3 (h:kQ w b o x):w.cell? ⟨b,o+3,none⟩=some (.int .u64 x.owner):=h 3 au
theorem kQ.c4 (h:kQ w b o x):w.cell? ⟨b,o+4,none⟩=some (.int .u64 x.prev):=h 4 au
theorem kQ.c5 (h:kQ w b o x):w.cell? ⟨b,o+5,none⟩=some (.int .u64 x.ay):=h 5 au
theorem kQ.c6 (h:kQ w b o x):w.cell? ⟨b,o+6,none⟩=some (.int .i64 x.blocks):=h 6 au
theorem kQ.Zo (h:kQ w b o x):w.cell? ⟨b,o+10,none⟩=some x.dv:=h 10 au
end
def fV:Option Nat->Int
 | none=>-1
 | some k=>(k:Int)
def cR (l:List cu) (id:Nat):Option Nat:=l.findIdx? λx=>decide (x.id=id)
def bA (l:List aZ):List cu:=l.map aZ.tocu
theorem jH (l:List aZ) (k:Nat): (bA l)[k]? =l[k]?.map aZ.tocu:=by grind[bA]
theorem dC (l:List aZ): (bA l).length=l.length:=by grind[bA]
theorem vj {p:α->Bool}{l:List α}{x:α}(hx:l[k]? =some x)(hp:p x=true)(hn: ∀(j:Nat) y,l[j]? =some y->j<k->p y=false):l.findIdx? p=some k:=by
 rw[X1]
 grind
theorem vl {p:α->Bool}{l:List α}(hn: ∀(j:Nat) y,l[j]? =some y->j<l.length->p y=false):l.findIdx? p=none:=by
 rw[findIdx?_eq_none_iff];intro x hx;obtain⟨j,hj,rfl⟩:=Jo.1 hx
 grind
theorem Dr {p:α->Bool}{l:List α}(h:l.findIdx? p=some k): ∃x,l[k]? =some x/\p x=true:=by
 grind[findIdx?_eq_some_iff_getElem]
theorem nZ (l:List aZ)(v:bh)(id:Nat)(hl:l.length<=1000000)(w:aD)(R:cQ w v l):yr 103 #[v,.int .u64 id] w (.int .i64 (fV (cR (bA l) id))):=by
 obtain⟨ao,cap,rfl,hcap,hao⟩:=aR R.1;have R:=ae R;have hao:=ae hao;have S:=ae (ug w);go_enter func103,ntmps103
 go_upto_region 2 with(fail)
 go_loopw [8] (λi wr=>∃k:Nat,k<=l.length/\i=.int .i64 k/\Hid ((∀(j:Nat) y,(bA l)[j]? =some y->j<k->decide (y.id=id)=false)/\St w none [] [] [] (λ_ _=>True) wr)) (λi _=>l.length - (intOf i).toNat)
 case atStart=>exact⟨0,au,rfl,ae ⟨λj y _ h=>by omega,S.o⟩⟩
 case round=>
  clear S;obtain⟨k,hk,rfl,hS⟩:=hrel;by_cases hlt:k<l.length
  . obtain⟨b,o,rfl⟩:=hao.o au;obtain⟨x,hx⟩: ∃x,l[k]? =some x:=⟨_,j4 hlt⟩;have hA:=ae ((R.o.below hS.o.2.fr.below).at hx);have HX:=ae hx;clear hx;rcases Kl (x.id=id) with rfl | he
    . go_wp2_with (with_reducible refine jo 15 82 14 hA.o.c0 ?_)
      go_ret;have hp:cR (bA l) x.id=some k:=vj (by rw[jH,HX.o];rfl) (ly rfl) hS.o.1;exact⟨by rw[hp];rfl,hS.o.2.fr.below⟩
    . have he2: ¬((x.id:Nat):Int)=(id:Nat):=au
      go_wp2_with (with_reducible refine jo 15 82 14 hA.o.c0 ?_)
      go_roundw
      case rel=>
       refine⟨k+1,au,by go_num,ae ⟨λj y hy hj=>?_,hS.o.2⟩⟩;by_cases hjk:j=k
       . subst hjk;rw[jH,HX.o] at hy;cases hy;exact iE he
       . exact hS.o.1 j y hy au
      case measure=>exact uO
  . obtain rfl:k=l.length:=au;go_wp2;go_ret;have hp:cR (bA l) id=none:=vl (by rw[dC];exact hS.o.1);exact⟨by rw[hp];rfl,hS.o.2.fr.below⟩
section
variable {x:Nat}
theorem aH (h:w.ownsRow base e z v n xs): ∃ao c,v=.slice ao n c:=by
 rcases h.2 with⟨rfl,rfl⟩ | ⟨g,cap,cur,rfl,_⟩<;>grind
theorem XR (S:St w0 d l L O X w)(j:Nat)(hj:O[j]? =some o){t:dD}(hs:a.eval q=o.v)(hx:a.eval r=v)(R:ar w T o.z v n xs)(ht:qj P t o.e o.z by')(h1: ∀u∈xs,u.oneCell'=true)(hn: (o.n+n)*by'<=140737488355328)(hm:o.n+n<=maxLen)(h: ∀ao c W,St w0 d l L (O.set j ⟨o.e,o.z,.slice ao (o.n+n) c,o.n+n,o.xs++xs⟩) X W->K (a.put (some dst) (.slice ao (o.n+n) c)) W):
 Oper.wp P ⟨some dst,.call {callee:=.builtin .append,args:=#[q,r],argTypes:=#[t,t]},t2,p,af,none⟩ a w K Q:=by
 have hjl:j<O.length:=(sy.1 hj).1;have h': ∀v' W,St w0 d l L (O.set j ⟨o.e,o.z,v',o.n+n,o.xs++xs⟩) X W->K (a.put (some dst) v') W:=λv' W hS=>by
  obtain⟨ao,c,hv⟩:=aH (hS.bR (k:=j) (by rw[Pa,bC rfl,bC hjl]))
  grind
 obtain⟨hu,zv,hi,hz,h0⟩:=ht;obtain⟨it,hi1,hz0,hz1,hz2⟩:=sC hi;obtain⟨hl,ao,cap,rfl,hc1,hc2,hc3⟩:=R;by_cases hn0:n=0
 . subst hn0;have hx0:xs=[]:=Jp au;subst hx0;have hrun:=qE (P:=P) w w0.heap.size t t2 o.e it o.z hu hi1 o.v o.n o.xs (S.bR hj) ao cap;unfold Oper.wp execOp;simp only[resolve,invoke,builtin,py,wB,rj,map_toArray,map_cons,map_nil,hs,hx,hrun];refine h' _ _ ?_;rw[CI,ET];have e1:O.set j ⟨o.e,o.z,o.v,o.n,o.xs⟩=O:=by
    apply EU
    simp_all[Pa]
   grind
 . obtain⟨b,off,cs,fl,rfl,hh,hcs⟩:=hc3 au;refine wp_append_lies w q r t rfl w0.heap.size o.e it zv o.z by' hu hi1 hz0 hz1 hz2 hz h0 o.v o.n o.xs hs (S.bR hj) ⟨b,off,none⟩ n cap xs hx hl (λi u hu2=>?_) h1 au hm hn S.fr.size _ rfl λg cap' w' hown hg hat _=>h' _ w' ?_
   . rw[show(⟨b,off,none⟩:Addr).add i=⟨b,off+i,none⟩ from by grind[Addr.add],cell_of_row w b _ cs T fl hh]
     grind
   . exact S.grow hj hg hown rfl hat
theorem apQ (S:St w0 d l L O X w)(j:Nat)(hj:O[j]? =some o){t:dD}(hs:a.eval q=o.v)(hx:a.eval r=v)(R:ar w T o.z v n xs)(ht:qj P t o.e o.z by')(h1: ∀u∈xs,u.oneCell'=true)(hn: (o.n+n)*by'<=140737488355328)(hm:o.n+n<=maxLen)(h: ∀ao c W,St w0 d l L (O.set j ⟨o.e,o.z,.slice ao (o.n+n) c,o.n+n,o.xs++xs⟩) X W->wpList P ops Q rest (a.put (some dst) (.slice ao (o.n+n) c)) W):
 wpList P ops Q (⟨some dst,.call {callee:=.builtin .append,args:=#[q,r],argTypes:=#[t,t]},t2,p,af,none⟩::rest) a w:=
 sD rfl λ_ hK=>XR S j hj hs hx R ht h1 hn hm λao c W hS=>hK _ _ (h ao c W hS)
theorem Z4 (dst y:Nat)(h:wpList P ops Q (⟨some dst,.call {callee:=.builtin .append,args:=#[.const (.slice none 0 0),.tmp y],argTypes:=ts},t2,p,af,none⟩::rest) a w):wpList P ops Q (⟨some dst,.call {callee:=.builtin .append,args:=#[.const (.slice none 0 0),.tmp y],argTypes:=ts},t2,p,af,none⟩::rest) a w:=h
end
theorem YE: (prog.info? 109).map (·.size)=some 11:=cm
theorem fQ:fu prog 109 11:=⟨⟨_,underlying109,rfl⟩,YE⟩
instance in836a7 :td 109 11:=⟨fQ⟩
def iA:aZ:=⟨⟨0,ov,false,0,0,0,0,hole,[]⟩,none,0⟩
theorem cO: (#[.int .u64 0,.string ⟨#[]⟩,.bool false,.int .u64 0,.int .u64 0,.int .u64 0,.int .i64 0,.int .i64 0,.int .u64 0,.int .u32 0,.slice none 0 0]:iw)=ah 11 (dy iA):=rfl
instance in56d2a :ZR 109 11 (dy iA):=⟨_,Er,cO⟩
theorem gU:fZ prog 4:=⟨⟨_,underlying4,rfl⟩,cm⟩
instance in6230a :qD 4:=⟨gU⟩
theorem pY:fZ prog 9:=⟨⟨_,Hr,rfl⟩,cm⟩
instance inf54d0 :qD 9:=⟨pY⟩
def aZ.Nw (x:aZ) (ao:Option Addr) (c:Nat):aZ:=⟨x.tocu,ao,c⟩
theorem Nx (x:aZ)(A:iw)(hA:A=ah 11 (dy x))(hx:x.dead.length<=1000000)(w:aD)(R:rV w x):
 Calls prog 115 #[.agg A] w λe w'=>∃(B:iw) (ao:Option Addr) (c:Nat),e=.returned (.agg B)/\B=ah 11 (dy (x.Nw ao c))/\dh w' w.heap.size (x.Nw ao c).dv x.dead/\dp w w':=by
 have HA:=ae hA;have R:=ae R;have S:=(ug w).yK 106 3 rfl rfl;clear hA;go_enter func115,ntmps115
 go_wp2_with (first|((with_reducible refine Z4 5 4 ?_);refine apQ S 0 rfl rfl rfl (R.o.below S.b) cN (jY _) JW BM λao c W S=>?_;rw[show(0+x.dead.length)=x.dead.length from rC _] at S ⊢;rw[show([]++eo x.dead)=eo x.dead from rfl] at S)|((with_reducible refine aS 107 6 5 ?_);refine gu S 1 rfl 10 (dy (x.Nw ao c)) (λj hj=>by have hj:j<11:=hj;rcases j with(_|_|_|_|_|_|_|_|_|_|_|j) <;> first | rfl | omega) qv rfl rfl rfl gx λW S=>?_;obtain⟨B,HB⟩:=BU (ah 11 (dy (x.Nw ao c))))|(refine o7 ?_;exact⟨_,_,_,rfl,rfl,S.o0,S.b⟩)|refine fN ?_|refine ew λW S=>?_)
def lW (X:aK->aD->Prop):Prop:=∀B w w' b,X B w->ek b w w'->du w b=none->X B w'
theorem lW.t:lW (λ_ _=>True):=λ_ _ _ _ _ _ _=>kO
theorem lW.and (h:lW X)(g:lW Y):lW (λB w=>X B w/\Y B w):=λ_ _ _ _ hx hb ht=>⟨h _ _ _ _ hx.1 hb ht,g _ _ _ _ hx.2 hb ht⟩
theorem lW.pl (P D M:Nat)(s:Pl):lW (Ae P D M s):=λ_ _ _ _ h hb ht=>by
 have h:bH _ P D M s:=h;obtain⟨l,hl⟩:=h.dev.open;refine h.XO hb hl (λhm=>?_) (λe=>?_) λe=>?_
 . obtain⟨u,hu,_⟩:=hl.ty _ hm
   grind
 . rw[e,h.tyP] at ht;cases ht
 . rw[e,h.Ze] at ht;cases ht
theorem AK {w:aD} {b:Nat} {o:Obj} (h:w.heap[b]? =some o) (hc:o.isCells=false):du w b=none:=by
 grind[du,Obj.isCells]
theorem St.obj (S:St w0 d l L O X w)(hb:ek b w w')(ht:du w b=none)(h0:w0.heap.size<=b)(hX:lW X):St w0 d l L O X w':=by
 have hne: ∀k t,du w k=some t->k≠b:=λk t h e=>by grind
 have hD: ∀D,d=some D->w'.heap[D]? =w.heap[D]?:=λD e=>hb.block D (c7 (S.O2 D e)) (hne _ _ (S.O2 D e));refine⟨S.fr.At h0 hb,λr hr=>?_,λo ho=>?_,S.lo,S.nd,hX _ _ _ _ S.x hb ht,S.fs⟩
 . have hR:=S.row r hr;exact⟨ag.but hR.1 hb (hne _ _ (ag.ty hR.1)),hR.2.1,hR.2.2.imp id λf D e=>by grind[lO]⟩
 . have hO:=S.own o ho;refine⟨jX hO.1 (λe=>?_) hb,hO.2⟩;rcases hO.1.2 with⟨h1,_⟩ | ⟨g,cap,cur,h1,_,hg,_⟩<;>grind[Value.ownBlock,du]
theorem vm (hg:w.grownBy w' (some b)):ek b w w':=⟨hg.os,hg.tape,hg.output,hg.size,λk hk hne=>hg.block k hk (λe=>hne (by cases e;rfl))⟩
theorem FT (hg:w.grownBy w' none):dp w w':=⟨hg.os,hg.tape,hg.output,hg.size,λk hk=>hg.block k hk (λe=>by cases e)⟩
theorem mj {γ:Type}{B:Nat}(h0:w0.heap.size<=B)(p:β->γ->Prop)(L:β->γ->List R4)(O:β->γ->List O4)(X:β->γ->aK->aD->Prop)(hX: ∀s y,lW (X s y)):
 OwnFrom B (λs W=>∃y,p s y/\St w0 d l (L s y) (O s y) (X s y) W):=by
 rintro s W W' row ⟨y,hp,S⟩ hg hr;refine⟨y,hp,?_⟩;cases row with
 | none=>exact S.below (FT hg)
 | some r=>
  obtain⟨hB,o,ho,hc⟩:=hr r rfl;exact S.obj (vm hg) (AK ho hc) (kL h0 hB) (hX s y)
structure iB (bs:aK) (W W':aD):Prop where
 below:Below 0 W W'
 same: ∀k∈bs,W'.heap[k]? =W.heap[k]?
theorem iB.trans {A B C:aD}(h:iB bs A B)(k:iB bs B C):iB bs A C:=⟨h.below.trans k.below,λi hi=>(k.same i hi).trans (h.same i hi)⟩
theorem iB.refl (bs:aK)(W:aD):iB bs W W:=⟨iU _ _,λ_ _=>rfl⟩
theorem iB.book (hn: ∀k∈bs,k<n)(W:aD)(l:Nat)(o o':Obj)(hl:n<=l)(_:W.heap[l]? =some o)(_:o.isCells=false)(_:o.isWalk=false):iB bs W (W.putObj l o'):=
 ⟨⟨rfl,rfl,rfl,by simp,λk hk=>absurd hk (ES _)⟩,λk hk=>World.putObj_heap_other rE⟩
def Mh (bs:aK):aK->aD->Prop:=λB w=>∀k∈bs,k∉B/\∃t,du w k=some t/\fk t=false/\df t=false
theorem Ny {t:dD}(h:du w k=some t)(hb:dp w w'):du w' k=some t:=by rw[pR (hb.block k (c7 h))];exact h
theorem RQ {d:Option Nat} {l:aK} {w w':aD} {k:Nat} {t:dD} (f:Fr d l w w') (h:du w k=some t) (h1:fk t=false) (h2:df t=false):w'.heap[k]? =w.heap[k]?:=
 f.block k (c7 h) (by
  grind[VG])
theorem fm (bs:aK):Still (Mh bs):=
 ⟨λh hb k hk=>⟨(h k hk).1,let⟨t,h1,h2⟩:=(h k hk).2;⟨t,Ny h1 hb,h2⟩⟩,
  fun {B w b} h hb k hk=>⟨λhm=>by
   rcases iI.1 hm with e | hm
   . obtain⟨_,t,h1,_⟩:=h k hk;have:=c7 h1;omega
   . exact(h k hk).1 hm,(h k hk).2⟩,
  λh hm k hk=>⟨λhk'=>(h k hk).1 (hm k hk'),(h k hk).2⟩,
  fun {B w w' b} h hB hb k hk=>⟨(h k hk).1,let⟨t,h1,h2⟩:=(h k hk).2;⟨t,by rw[pR (hb.block k (c7 h1) (λe=>(h k hk).1 (e ▸ hB)))];exact h1,h2⟩⟩,
  λh f k hk=>⟨(h k hk).1,let⟨t,h1,h2,h3⟩:=(h k hk).2;⟨t,by grind[pR,RQ],h2,h3⟩⟩⟩
theorem lW.av (bs:aK):lW (Mh bs):=λ_ _ _ _ h hb ht k hk=>⟨(h k hk).1,let⟨t,h1,h2⟩:=(h k hk).2;⟨t,by rw[pR (hb.block k (c7 h1) (λe=>by grind))];exact h1,h2⟩⟩
def Fv (bs:aK) (W:aD):aK->aD->Prop:=λB w=>Mh bs B w/\KeepsOthers W w/\iB bs W w
theorem AL (hb:dp w w'):KeepsOthers w w':=⟨hb.size,λk o hk _=>(hb.block k (zY.1 hk).1).trans hk⟩
theorem Ea {t:dD}(hb:ek b w w')(ht:du w b=some t):KeepsOthers w w':=
 ⟨hb.size,λk o hk ho=>(hb.block k (zY.1 hk).1 (λe=>by grind[AK])).trans hk⟩
theorem FU (f:Fr d l w w'):KeepsOthers w w':=
 ⟨f.size,λk o hk ho=>(f.block k (zY.1 hk).1 (λ⟨t,h,_⟩=>by grind[AK])).trans hk⟩
theorem AM (hb:dp w w'):Below 0 w w':=hb.mono (kf _)
theorem Qr (hb:ek b w w'):Below 0 w w':=⟨hb.os,hb.tape,hb.output,hb.size,λk hk=>absurd hk (ES _)⟩
theorem TN (f:Fr d l w w'):Below 0 w w':=⟨f.os,f.tape,f.output,f.size,λk hk=>absurd hk (ES _)⟩
theorem zO (h:iB bs W w)(hb:Below 0 w w')(hs: ∀k∈bs,w'.heap[k]? =w.heap[k]?):iB bs W w':=h.trans ⟨hb,hs⟩
theorem gX.bS (bs:aK)(W:aD)(h:gX d X):gX d (λB w=>X B w/\Fv bs W B w):=
 ⟨fun {B w w'} hx hb=>⟨h.below hx.1 hb,(fm bs).below hx.2.1 hb,hx.2.2.1.trans (AL hb),zO hx.2.2.2 (AM hb) λk hk=>hb.block k (let⟨_,h1,_⟩:=(hx.2.1 k hk).2;c7 h1)⟩,
  λhx hb=>⟨h.add hx.1 hb,(fm bs).add hx.2.1 hb,hx.2.2⟩,
  λhx hm=>⟨h.mono hx.1 hm,(fm bs).mono hx.2.1 hm,hx.2.2⟩,
  fun {B w w' b t} hx hB hb ht h1 h2=>⟨h.but hx.1 hB hb ht h1 h2,(fm bs).but hx.2.1 hB hb,hx.2.2.1.trans (Ea hb ht),zO hx.2.2.2 (Qr hb) λk hk=>hb.block k (let⟨_,h1,_⟩:=(hx.2.1 k hk).2;c7 h1) (λe=>(hx.2.1 k hk).1 (e ▸ hB))⟩,
  λhx e=>h.dev hx.1 e⟩
theorem AN (h:Fv bs W B w)(f:Fr d l w w'):Fv bs W B w':=
 ⟨(fm bs).fr h.1 f,h.2.1.trans (FU f),zO h.2.2 (TN f) λk hk=>let⟨_,h1,h2,h3⟩:=(h.1 k hk).2;RQ f h1 h2 h3⟩
theorem St.bS (S:St w0 d l L O (λB w=>X B w/\Mh bs B w) w):St w0 d l L O (λB W=>(X B W/\Mh bs B W)/\Fv bs w B W) w:=
 ⟨S.fr,S.row,S.own,S.lo,S.nd,⟨S.x,S.x.2,KeepsOthers.refl _,iB.refl _ _⟩,gX.bS bs w S.fs⟩
theorem St.kept (S:St w0 d l L O (λB w=>X B w/\Fv bs W B w) w)(hs:gX d X):KeepsOthers W w/\iB bs W w/\St w0 d l L O X w:=
 ⟨S.x.2.2.1,S.x.2.2.2,S.fr,S.row,S.own,S.lo,S.nd,S.x.1,hs⟩
theorem St.Nz (S:St w0 d l L O X w)(hb:dp w w')(h: ∀k∈bs,(w.heap.size<=k∨k<w0.heap.size)/\∃t,du w' k=some t/\fk t=false/\df t=false):St w0 d l L O (λB w=>X B w/\Mh bs B w) w':=by
 have S':=S.below hb;refine⟨S'.fr,S'.row,S'.own,S'.lo,S'.nd,⟨S'.x,λk hk=>⟨λhm=>?_,(h k hk).2⟩⟩,S'.fs.still (fm bs)⟩;rcases(h k hk).1 with h1 | h1
 . have:=S.lt k hm;omega
 . have:=S.lo k hm;omega
def j7 (s:cu):Nat×lf:=if s.snap=true then(s.owner,s.name) else(0,s.name)
def nB (c:Nat×lf):Nat->bh:=λi=>if i=0 then .int .u64 c.1 else .string c.2
theorem Ci (c:Nat×lf): ∀i,(nB c i).oneCell'=true:=by
 intro i;unfold nB;split <;> rfl
instance ina6fa9 (x:Nat×lf):OF (nB x):=⟨Ci x⟩
theorem vO (c:Nat×lf):ah 2 (nB c)=#[.int .u64 c.1,.string c.2]:=rfl
theorem O3: (#[.int .u64 0,.string ⟨#[]⟩]:iw)=ah 2 (nB (0,ov)):=rfl
instance in3a7d0 :ZR 258 2 (nB (0,ov)):=⟨_,zeroValue258,O3⟩
theorem UL:fu prog 258 2:=⟨⟨_,underlying258,rfl⟩,cm⟩
instance ina5a31 :td 258 2:=⟨UL⟩
theorem Z5 (c d:Nat×lf)(r:Bool)(h:decide (c=d)=r)(w:aD): (binOp .eql 258 (.agg #[.int .u64 c.1,.string c.2]) (.agg #[.int .u64 d.1,.string d.2])).run prog w=.ok (.bool r) w:=by
 have hs: (Op.equal 258 (.agg #[.int .u64 c.1,.string c.2]) (.agg #[.int .u64 d.1,.string d.2])).run prog w=.ok r w:=by
  unfold Op.equal Op.maxDepth;rw[run_equalIn_struct (P:=prog) w 9999 258 _ _ cm cm];have hf: (prog.fieldsOf 258).toList=[{name:= "owner",type:=82,offset:=0,embedded:=false,tag:= "",pkgPath:= "aquifer/family",byteOffset:=0},{name:= "name",type:=9,offset:=1,embedded:=false,tag:= "",pkgPath:= "aquifer/family",byteOffset:=8}]:=cm;rw[hf];simp[Op.eqFields,part,isAgg82,isAgg9,Result.andThen,Vx w 9998 82 .u64 .u64 _ _ underlying82,run_equalIn_string w 9998 9 _ _ Hr];rw[<-h];obtain⟨a,s⟩:=c;obtain⟨b,t⟩:=d;simp only;have hst:s.toList=t.toList↔s=t:=by
   rw[Iv,Iv];exact⟨λe=>by obtain⟨⟨x⟩⟩:=s;simp_all,λe=>by rw[e]⟩
  by_cases h1:a=b
  . by_cases h2:s=t<;>simp_all
  . have: ¬((a:Int)=(b:Int)):=au
    simp_all
 simp_all[binOp]
theorem FV (b o:Nat)(x:aZ)(w:aD)(h:kQ w b o x):yr 199 #[.pointer (some ⟨b,o,none⟩)] w (.agg (ah 2 (nB (j7 x.tocu)))):=by
 have R:=ae h;clear h;have S:=ug w;cases hs:x.snap with
 | true=>
  have hc:j7 x.tocu=(x.owner,x.name):=by unfold j7;rw[bC hs]
  rw[hc];have h2:Value.bool x.snap=.bool true:=by rw[hs]
  have H2:=ae h2;obtain⟨A,HA⟩:=BU (ah 2 (nB (x.owner,x.name)));clear hs hc h2;go_enter func199,ntmps199
  go_upto_region 2 with(first|((with_reducible refine aG 6 4 5 ?_);refine bM (R.o.below S.b).c2 rfl gU ?_;rw[H2.o])|refine ew λW S=>?_)
  refine ve S cm λW S=>?_;refine bp 0 7 _ ?_;refine bp 1 8 (bZ b o) ?_;refine bp 2 9 (bZ b (o+3)) ?_;refine gY 3 10 (.int .u64 x.owner) rfl (bP (λw h=>by obtain⟨_,_,_,S⟩:=h;exact(R.o.below S.b).c3) rfl bF) ?_;refine bp 4 11 _ ?_;refine bp 5 12 (bZ b o) ?_;refine bp 6 13 (bZ b (o+1)) ?_;refine gY 7 14 (.string x.name) rfl (bP (λw h=>by obtain⟨_,_,_,S⟩:=h;exact(R.o.below S.b).c1) rfl pY) ?_;refine gY 8 15 (.agg A) rfl (pf rfl (by rw[HA.o];kernel_rfl)) ?_;refine mO 9 λK hK=>?_;refine dL S 0 rfl rfl rfl HA.o UL (Ci _) λW S=>?_;refine gM hK ?_;refine uy ?_
  go_wp2_with (refine o7 ?_;exact⟨rfl,S.b⟩)
 | false=>
  have hc:j7 x.tocu=(0,x.name):=by unfold j7;rw[bX (by rw[hs];simp)]
  rw[hc];have h2:Value.bool x.snap=.bool false:=by rw[hs]
  have H2:=ae h2;obtain⟨A,HA⟩:=BU (ah 2 (nB (0,x.name)));clear hs hc h2;go_enter func199,ntmps199
  go_wp2_with (first|(with_reducible refine jo 19 9 18 (R.o.below S.b).c1 ?_)|((with_reducible refine aG 6 4 5 ?_);refine bM (R.o.below S.b).c2 rfl gU ?_;rw[H2.o])|((with_reducible refine aY 20 258 ?_);refine eW (cells:=A) rfl (by rw[HA.o];kernel_rfl) ?_)|(refine o7 ?_;exact⟨rfl,S.b⟩)|refine ew λW S=>?_)
def xe (l:List cu) (c:Nat×lf):Option Nat:=l.findIdx? λx=>decide (j7 x=c)
theorem Ds (l:List aZ)(v:bh)(c:Nat×lf)(A:iw)(hA:A=ah 2 (nB c))(hl:l.length<=1000000)(w:aD)(R:cQ w v l):yr 164 #[v,.agg A] w (.int .i64 (fV (xe (bA l) c))):=by
 obtain⟨ao,cap,rfl,hcap,hao⟩:=aR R.1;have R:=ae R;have hao:=ae hao;have HA:=ae hA;clear hA;have S:=ug w;go_enter func164,ntmps164
 go_upto_region 2 with(refine ew λW S=>?_)
 have S:=ae S
 go_loopw [8] (λi wr=>∃k:Nat,k<=l.length/\i=.int .i64 k/\Hid ((∀(j:Nat) y,(bA l)[j]? =some y->j<k->decide (j7 y=c)=false)/\St w none [] [⟨w.heap.size,258,2,nB c⟩] [] (λ_ _=>True) wr)) (λi _=>l.length - (intOf i).toNat)
 case atStart=>exact⟨0,au,rfl,ae ⟨λj y _ h=>by omega,S.o⟩⟩
 case round=>
  clear S;obtain⟨k,hk,rfl,hS⟩:=hrel;by_cases hlt:k<l.length
  . obtain⟨b,o,rfl⟩:=hao.o au;obtain⟨x,hx⟩: ∃x,l[k]? =some x:=⟨_,j4 hlt⟩;obtain⟨hold,S⟩:=hS.o;clear hS;have C1:=ae λW (hb:dp w W)=>FV b (o+k*11) x W ((R.o.below hb).at hx);have HX:=ae hx;obtain⟨D,HD⟩:=qI (j7 x.tocu);rw[HD.o] at C1;obtain⟨r,hr⟩:=cM (decide (D=c));have hq:=Z5 D c r hr;rw[<-vO,<-vO] at hq;obtain⟨B,hB⟩:=gq (ah 2 (nB D));rw[<-hB] at hq C1;rw[<-HA.o] at hq;have HQ:=ae hq;have HH:=ae hold;have HR:=ae hr;clear hx hq hold hr hB;go_wp2;refine bL S cm λW S=>?_;refine bp 0 11 _ ?_;refine bp 1 12 _ ?_;refine bp 2 13 (bZ b (o+k*11)) ?_;refine bp 4 15 (.agg A) ?_;refine mO 3 λK hK=>?_
    go_wp2_with fail
    refine je S (C1.o _ S.b) λW S=>?_;refine gM hK ?_;refine gY 5 16 (.bool r) rfl (Or.inl ⟨cm,λw hw=>by have h0:=HQ.o;go_simp⟩) ?_;refine uy ?_;cases r with
    | true=>
     go_wp2;go_ret;have hp:xe (bA l) c=some k:=vj (by rw[jH,HX.o];rfl) (by rw[HD.o];exact HR.o) HH.o;exact⟨by rw[hp];rfl,S.b⟩
    | false=>
     go_wp2;go_roundw
     case rel=>
      refine⟨k+1,au,by go_num,ae ⟨λj y hy hj=>?_,S⟩⟩;by_cases hjk:j=k
      . subst hjk;rw[jH,HX.o] at hy;cases hy;rw[HD.o];exact HR.o
      . exact HH.o j y hy au
     case measure=>exact uO
  . obtain rfl:k=l.length:=au;go_wp2;go_ret;have hp:xe (bA l) c=none:=vl (by rw[dC];exact hS.o.1);exact⟨by rw[hp];rfl,hS.o.2.fr.below⟩
theorem ny:prog.built 109 []=some #[.int .u64 0,.string ⟨#[]⟩,.bool false,.int .u64 0,.int .u64 0,.int .u64 0,.int .i64 0,.int .i64 0,.int .u64 0,.int .u32 0,.slice none 0 0]:=cm
def jN:cu:=iA.tocu
def di (l:List cu) (k:Nat):cu:=l.getD k jN
def L' (l:List cu):Option Nat->cu
 | none=>jN
 | some k=>di l k
theorem fW {l:List aZ} {k:Nat} {x:aZ} (hx:l[k]? =some x):di (bA l) k=x.tocu:=by
 grind[di,jH]
theorem fy {l:List aZ} {id k:Nat} (h:cR (bA l) id=some k):k<l.length/\∃x,l[k]? =some x/\x.id=id:=by
 obtain⟨x,hx,hp⟩:=Dr h;rw[jH] at hx
 grind
theorem FW {l:List aZ}{c:Nat×lf}(h:xe (bA l) c=some k):k<l.length/\∃x,l[k]? =some x/\j7 x.tocu=c:=by
 obtain⟨x,hx,hp⟩:=Dr h;rw[jH] at hx
 grind
def rX (w':aD) (base:Nat) (B:iw) (t:cu):Prop:=∃y:aZ,B=ah 11 (dy y)/\y.tocu=t/\dh w' base y.dv y.dead
theorem kB (w:aD)(base:Nat):rX w base (ah 11 (dy iA)) jN:=⟨iA,rfl,rfl,dh.nil _ _⟩
theorem kR (x:aZ)(A:iw)(hA:A=ah 11 (dy x))(hx:x.dead.length<=1000000)(w:aD)(R:rV w x):
 Calls prog 115 #[.agg A] w λe w'=>∃(B:iw) (y:aZ),e=.returned (.agg B)/\B=ah 11 (dy y)/\(y.tocu=x.tocu/\dh w' w.heap.size y.dv y.dead)/\dp w w':=
 (Nx x A hA hx w R).mono λe w' h=>by
  obtain⟨B,ao,c,h1,h2,h3,h4⟩:=h;exact⟨B,x.Nw ao c,h1,h2,⟨rfl,h3⟩,h4⟩
def YF (s:List cu):Prop:=∀t∈s,t.dead.length<=1000000/\t.name.size<=1000
def lS (l:List aZ):Prop:=YF (bA l)
theorem lS.at {l:List aZ}(h:lS l){x:aZ}(hx:x∈l):x.dead.length<=1000000/\x.name.size<=1000:=h x.tocu (lY.2 ⟨x,hx,rfl⟩)
theorem Dt (l:List aZ)(v:bh)(id:Nat)(hl:l.length<=1000000)(hd:lS l)(w:aD)(R:cQ w v l):Calls prog 160 #[v,.int .u64 id] w λe w'=>∃B,e=.returned (.tuple #[.agg B,.bool (cR (bA l) id).isSome])/\rX w' w.heap.size B (L' (bA l) (cR (bA l) id))/\dp w w':=by
 obtain⟨ao,cap,rfl,hcap,hao⟩:=aR R.1;have R:=ae R;have C1:=ae λW (hb:dp w W)=>nZ l _ id hl W (R.o.below hb);have S:=ug w;rcases hp:cR (bA l) id with _ | k;rw[hp] at C1;simp only[fV] at C1;clear hp
 rotate_left
 rw[hp] at C1;simp only[fV] at C1;obtain⟨hk,x,hx,-⟩:=fy hp;have hg:=fW hx;clear hp;obtain⟨b,o,rfl⟩:=hao au;obtain⟨hi,hxx⟩:=sy.1 hx;obtain⟨A,hA⟩:=gq (ah 11 (dy x));have hsub:=ae (iN l hi (A:=A) (by rw[hxx];exact hA));have HA:=ae hA;have hm:=nf hx;have C2:=ae λW (hb:dp w W)=>kR x A HA.o (hd.at hm).1 W ((R.o.below hb).2 x hm);have HG:=ae hg;clear hA hg hxx hm hx
 all_goals
  go_enter func160,ntmps160
  go_wp2_with (first|(go_at_call 103;refine je S (C1.o _ S.b) λW S=>?_)|(go_at_call 115;refine(C2.o _ S.b).mono ?_;rintro e W ⟨B,y,rfl,hB,hY,hb⟩;have HB:=ae hB;replace hY:=hY;have S1:=S;replace S:=S.cU hb hY.2 rfl rfl;have HY:=ae hY.1;clear hb hB hY S1)|((with_reducible refine pP ?_);refine Md (R.o.below S.b).1 hi (DW HA) hsub.o ?_)|refine fN ?_|refine ew λW S=>?_|(refine o7 ?_;exact⟨_,rfl,kB _ _,S.b⟩)|(refine o7 ?_;exact⟨_,rfl,⟨y,rfl,HY.o.trans HG.o.symm,S.o0⟩,S.b⟩))
def kZ (l:List cu) (full:lf):Option Nat×Int:=
 match dQ full with
 | none=>(none,141)
 | some (vol,snap)=>match xe l (0,vol) with
  | none=>(none,161)
  | some i=>if snap=ov then(some i,0) else match xe l ((di l i).id,snap) with
   | none=>(none,161)
   | some j=>(some j,0)
theorem AP (l:List aZ)(v:bh)(full:lf)(hf:full.size<=1000000)(hl:l.length<=1000000)(hd:lS l)(w:aD)(R:cQ w v l):Calls prog 107 #[v,.string full] w λe w'=>∃B,e=.returned (.tuple #[.agg B,.int .i64 (kZ (bA l) full).2])/\rX w' w.heap.size B (L' (bA l) (kZ (bA l) full).1)/\dp w w':=by
 obtain⟨ao,cap,rfl,hcap,hao⟩:=aR R.1;have R:=ae R;have C0:=ae (nA full hf);have S:=ug w;rcases hn:dQ full with _ | p;have HN:Hid (kZ (bA l) full=(none,141)):=ae (by unfold kZ;rw[hn]);rw[hn] at C0;clear hn
 rotate_left
 obtain⟨vol,snap⟩:=p;rw[hn] at C0;obtain⟨A1,hA1⟩:=gq (ah 2 (nB (0,vol)));have C1:=ae λW (hb:dp w W)=>Ds l _ (0,vol) A1 hA1 hl W (R.o.below hb);have HA1:=ae hA1;clear hA1;rcases h1:xe (bA l) (0,vol) with _ | i;have HN:Hid (kZ (bA l) full=(none,161)):=ae (by unfold kZ;rw[hn];simp only[h1]);rw[h1] at C1;simp only[fV] at C1;clear hn h1
 rotate_left
 rw[h1] at C1;simp only[fV] at C1;obtain⟨hi,x,hx,-⟩:=FW h1;have hg:=fW hx;have hi0: (0:Int)<=(i:Int):=Int.natCast_nonneg i;have hi1: ¬((i:Int)<0):=au;obtain⟨b,o,rfl⟩:=hao au;have HX:=ae hx;by_cases hs:snap=ov;have HN:Hid (kZ (bA l) full=(some i,0)):=ae (by unfold kZ;grind);obtain⟨hi9,hxx⟩:=sy.1 HX.o;obtain⟨A,hA⟩:=gq (ah 11 (dy x));have hsub:=ae (iN l hi9 (A:=A) (by rw[hxx];exact hA));have HA:=ae hA;have hm:=nf HX.o;have C9:=ae λW (hb:dp w W)=>kR x A HA.o (hd.at hm).1 W ((R.o.below hb).2 x hm);have HG:=ae hg;clear hA hg hxx hm;subst hs;unfold ov at C0;clear hn h1
 rotate_left
 have he:=qp hs;obtain⟨A2,hA2⟩:=gq (ah 2 (nB (x.id,snap)));have C2:=ae λW (hb:dp w W)=>Ds l _ (x.id,snap) A2 hA2 hl W (R.o.below hb);have HA2:=ae hA2;clear hA2;rcases h2:xe (bA l) (x.id,snap) with _ | j;have HN:Hid (kZ (bA l) full=(none,161)):=ae (by unfold kZ;grind);rw[h2] at C2;simp only[fV] at C2;clear hn h1 h2 hs hg hx
 rotate_left
 have HN:Hid (kZ (bA l) full=(some j,0)):=ae (by unfold kZ;grind);rw[h2] at C2;simp only[fV] at C2;obtain⟨hj,y,hy,-⟩:=FW h2;have hg2:=fW hy;have hj1: ¬((j:Int)<0):=au;have HY:=ae hy;clear hx;obtain⟨hi9,hxx⟩:=sy.1 HY.o;obtain⟨A,hA⟩:=gq (ah 11 (dy y));have hsub:=ae (iN l hi9 (A:=A) (by rw[hxx];exact hA));have HA:=ae hA;have hm:=nf HY.o;have C9:=ae λW (hb:dp w W)=>kR y A HA.o (hd.at hm).1 W ((R.o.below hb).2 y hm);have HG:=ae hg2;clear hA hg2 hxx hm;clear hn h1 h2 hs hg
 all_goals
  rw[HN.o];go_enter func107,ntmps107
  go_wp2_with (first|(go_at_call_has 164 A1;refine je S (C1.o _ S.b) λW S=>?_)|(go_at_call_has 164 A2;refine je S (C2.o _ S.b) λW S=>?_)|(go_at_call 63;refine je S (C0.o _) λW S=>?_)|((with_reducible refine aY 22 258 ?_);refine eW (cells:=A1) rfl (by rw[HA1.o];kernel_rfl) ?_)|(go_at_call 164;refine je S (C1.o _ S.b) λW S=>?_)|(go_at_call 115;refine(C9.o _ S.b).mono ?_;rintro e W ⟨B,y9,rfl,hB,hY,hb⟩;have HB:=ae hB;replace S:=S.cU hb hY.2 rfl rfl;have HY9:=ae hY.1;clear hb hB hY)|(with_reducible refine jo 35 82 34 ((R.o.below S.b).at HX.o).c0 ?_)|((with_reducible refine aY 37 258 ?_);refine eW (cells:=A2) rfl (by rw[HA2.o];kernel_rfl) ?_)|((with_reducible refine pP ?_);refine Md (R.o.below S.b).1 hi9 (DW HA) hsub.o ?_)|refine fN ?_|refine ew λW S=>?_|(refine o7 ?_;exact⟨_,rfl,kB _ _,S.b⟩)|(refine o7 ?_;exact⟨_,rfl,⟨y9,rfl,HY9.o.trans HG.o.symm,S.o0⟩,S.b⟩))
def iO (l:List cu) (id:Nat):Nat:=
 match cR l id with
 | none=>0
 | some i=>if(di l i).prev=0 then 0 else match cR l (di l i).prev with
  | none=>0
  | some j=>(di l j).ay
theorem x8 (l:List aZ)(v:bh)(id:Nat)(hl:l.length<=1000000)(w:aD)(R:cQ w v l):yr 114 #[v,.int .u64 id] w (.int .u64 (iO (bA l) id:Nat)):=by
 obtain⟨ao,cap,rfl,hcap,hao⟩:=aR R.1;have R:=ae R;have C1:=ae λ(id:Nat) W (hb:dp w W)=>nZ l _ id hl W (R.o.below hb);have S:=ug w;cases hp:cR (bA l) id with
 | none=>
  have HN:Hid (iO (bA l) id=0):=ae (by unfold iO;rw[hp]);have C1:=ae (C1.o id);rw[hp] at C1;simp only[fV] at C1;clear hp;go_enter func114,ntmps114
  go_wp2_with (go_at_call 103;refine je S (C1.o _ S.b) λW S=>?_)
  go_ret;exact⟨by rw[HN.o];rfl,S.b⟩
 | some i=>
  obtain⟨hi,x,hx,-⟩:=fy hp;have hg:=fW hx;obtain⟨b,o,rfl⟩:=hao au;have hi0: ¬((i:Int)<0):=au;have C2:=ae (C1.o id);rw[hp] at C2;simp only[fV] at C2;have HX:=ae hx;obtain⟨pv,hpv⟩:=cM x.prev;have H4:Hid (Value.int .u64 x.prev=.int .u64 pv):=ae (by rw[hpv]);by_cases h0:pv=0;have HN:Hid (iO (bA l) id=0):=ae (by unfold iO;rw[hp];simp only[hg];rw[bC (hpv.trans h0)]);subst h0;clear hp hx hg hpv C1
  rotate_left
  have hne: ((pv:Int)==0)=false:=by rw[k'];omega
  have C3:=ae (C1.o pv);have hN:iO (bA l) id=match cR (bA l) pv with | none=>0 | some j=>(di (bA l) j).ay:=by unfold iO;rw[hp];simp only[hg];rw[bX (by rw[hpv];exact h0),hpv]
  rcases hp2:cR (bA l) pv with _ | j;rw[hp2] at hN C3;simp only[fV] at C3;have HN:Hid (iO (bA l) id=0):=ae hN;clear hp hx hg hpv C1 hN hp2 h0
  rotate_left
  rw[hp2] at hN C3;simp only[fV] at C3;obtain⟨hj,y,hy,-⟩:=fy hp2;have hg2:=fW hy;have hj0: ¬((j:Int)<0):=au;simp only[hg2] at hN;have HN:Hid (iO (bA l) id=y.ay):=ae hN;have HY:=ae hy;clear hp hx hg hpv C1 hN hp2 h0 hy hg2
  all_goals
   go_enter func114,ntmps114
   go_wp2_with (first|(go_at_call_has 103 (Value.int .u64 id);refine je S (C2.o _ S.b) λW S=>?_)|(go_at_call_has 103 (Value.int .u64 pv);refine je S (C3.o _ S.b) λW S=>?_)|(go_at_call 103;refine je S (C2.o _ S.b) λW S=>?_)|((with_reducible refine cP 16 82 15 ?_);refine cV cm ?_;refine bM ((R.o.below S.b).at HX.o).c4 rfl bF ?_;rw[H4.o])|((with_reducible refine aG 24 82 23 ?_);refine bM ((R.o.below S.b).at HX.o).c4 rfl bF ?_;rw[H4.o])|(with_reducible refine jo 32 82 31 ((R.o.below S.b).at HY.o).c5 ?_))
   go_ret;exact⟨by rw[HN.o];rfl,S.b⟩
def uB (l:List cu) (id:Nat):lf:=
 match cR l id with
 | none=>ov
 | some i=>if(di l i).snap=false then jC (di l i).name ov else match cR l (di l i).owner with
  | none=>ov
  | some j=>jC (di l j).name (di l i).name
theorem Wm (l:List aZ)(v:bh)(id:Nat)(hl:l.length<=1000000)(hd:lS l)(w:aD)(R:cQ w v l):yr 44 #[v,.int .u64 id] w (.string (uB (bA l) id)):=by
 obtain⟨ao,cap,rfl,hcap,hao⟩:=aR R.1;have R:=ae R;have C1:=ae λ(id:Nat) W (hb:dp w W)=>nZ l _ id hl W (R.o.below hb);have S:=ug w;cases hp:cR (bA l) id with
 | none=>
  have HN:Hid (uB (bA l) id=ov):=ae (by unfold uB;rw[hp]);have C1:=ae (C1.o id);rw[hp] at C1;simp only[fV] at C1;clear hp;go_enter func44,ntmps44
  go_wp2_with (go_at_call 103;refine je S (C1.o _ S.b) λW S=>?_)
  go_ret;exact⟨by rw[HN.o];rfl,S.b⟩
 | some i=>
  obtain⟨hi,x,hx,-⟩:=fy hp;have hg:=fW hx;obtain⟨b,o,rfl⟩:=hao au;have hi0: ¬((i:Int)<0):=au;have C2:=ae (C1.o id);rw[hp] at C2;simp only[fV] at C2;have HX:=ae hx;rcases hs:x.snap with _ | _;have H2:Hid (Value.bool x.snap=.bool false):=ae (by rw[hs]);have HN:Hid (uB (bA l) id=jC x.name ov):=ae (by unfold uB;rw[hp];simp only[hg];rw[bC hs]);have C3:=ae (AJ x.name ov nh);unfold ov at C3;clear hp hx hg C1 hs
  rotate_left
  have H2:Hid (Value.bool x.snap=.bool true):=ae (by rw[hs]);obtain⟨ow,how⟩:=cM x.owner;have H3:Hid (Value.int .u64 x.owner=.int .u64 ow):=ae (by rw[how]);have C3:=ae (C1.o ow);have hN:uB (bA l) id=match cR (bA l) ow with | none=>ov | some j=>jC (di (bA l) j).name x.name:=by unfold uB;rw[hp];simp only[hg];rw[bX (by rw[hs];simp),how]
  rcases hp2:cR (bA l) ow with _ | j;rw[hp2] at hN C3;simp only[fV] at C3;have HN:Hid (uB (bA l) id=ov):=ae hN;clear hp hx hg C1 hs hN hp2 how
  rotate_left
  . rw[hp2] at hN C3;simp only[fV] at C3;obtain⟨hj,y,hy,-⟩:=fy hp2;have hg2:=fW hy;have hj0: ¬((j:Int)<0):=au;simp only[hg2] at hN;have C4:=ae (AJ y.name x.name (hd.at (nf hx)).2);have HN:Hid (uB (bA l) id=jC y.name x.name):=ae hN;have HY:=ae hy;clear hp hx hg C1 hs hN hp2 how hy hg2;go_enter func44,ntmps44
    go_upto_region 9 with(first
   |(go_at_call_has 103 (Value.int .u64 id);refine je S (C2.o _ S.b) λW S=>?_)
   |((with_reducible refine aG 16 4 15 ?_);refine bM ((R.o.below S.b).at HX.o).c2 rfl gU ?_;rw[H2.o])
   |((with_reducible refine aG 29 82 28 ?_);refine bM ((R.o.below S.b).at HX.o).c3 rfl bF ?_;rw[H3.o])
   |(go_at_call_has 103 (Value.int .u64 ow);refine je S (C3.o _ S.b) λW S=>?_))
    refine bL S cm λW S=>?_;refine bp 0 33 _ ?_;refine bp 1 34 _ ?_;refine bp 2 35 (bZ b (o+j*11)) ?_;refine bp 3 36 (bZ b (o+j*11+1)) ?_;refine gY 4 37 (.string y.name) rfl (bP (λw h=>by obtain⟨_,S⟩:=h;exact((R.o.below S.b).at HY.o).c1) rfl pY) ?_;refine bp 5 38 _ ?_;refine bp 6 39 _ ?_;refine bp 7 40 (bZ b (o+i*11)) ?_;refine bp 8 41 (bZ b (o+i*11+1)) ?_;refine gY 9 42 (.string x.name) rfl (bP (λw h=>by obtain⟨_,S⟩:=h;exact((R.o.below S.b).at HX.o).c1) rfl pY) ?_;refine mO 10 λK hK=>?_
    go_wp2_with fail
    refine je S (C4.o _) λW S=>?_;refine gM hK ?_;refine bp 11 4 _ ?_;refine uy ?_;go_wp2;go_ret;exact⟨by rw[HN.o];rfl,S.b⟩
  all_goals
   go_enter func44,ntmps44
   go_wp2_with (first|(go_at_call_has 103 (Value.int .u64 id);refine je S (C2.o _ S.b) λW S=>?_)|(go_at_call_has 103 (Value.int .u64 ow);refine je S (C3.o _ S.b) λW S=>?_)|(with_reducible refine jo 22 9 21 ((R.o.below S.b).at HX.o).c1 ?_)|(go_at_call 103;refine je S (C2.o _ S.b) λW S=>?_)|((with_reducible refine aG 16 4 15 ?_);refine bM ((R.o.below S.b).at HX.o).c2 rfl gU ?_;rw[H2.o])|(go_at_call 104;refine je S (C3.o _) λW S=>?_)|((with_reducible refine aG 29 82 28 ?_);refine bM ((R.o.below S.b).at HX.o).c3 rfl bF ?_;rw[H3.o]))
   go_ret;exact⟨by rw[HN.o];rfl,S.b⟩
def xf (l:List cu) (id:Nat):Nat->aK->Nat->aK×Nat
 | 0,chain,prev=>(chain,prev)
 | f+1,chain,prev=>if prev=0 then(chain,prev) else match cR l prev with
  | none=>(chain,prev)
  | some i=>if(di l i).owner=id then xf l id f (chain++[prev]) (di l i).prev else(chain,prev)
def qF (l:List cu) (id:Nat):aK×Nat:=
 match cR l id with
 | none=>([],0)
 | some i=>if(di l i).snap=true then([],0) else xf l id 32 [] (di l i).prev
theorem Qs (l:List cu)(id f:Nat)(chain:aK):xf l id f chain 0=(chain,0):=by cases f <;> simp[xf]
def Eb (l:aK):List bh:=l.map λ(n:Nat)=>Value.int .u64 (n:Int)
theorem TO:qj prog 78 82 1 8:=⟨Fi,_,oJ,rfl,au⟩
theorem NA (k:IntKind)(l:List Int): ∀i,(AD k l i).oneCell'=true:=λ_=>rfl
theorem RS (l:List aZ)(v:bh)(id:Nat)(hl:l.length<=1000000)(w:aD)(R:cQ w v l):Calls prog 105 #[v,.int .u64 id] w λe w'=>∃r,e=.returned (.tuple #[r,.int .u64 ((qF (bA l) id).2:Nat)])/\D3 w' w.heap.size r (qF (bA l) id).1/\dp w w':=by
 obtain⟨ao,cap,rfl,hcap,hao⟩:=aR R.1;have R:=ae R;have C1:=ae λ(id:Nat) W (hb:dp w W)=>nZ l _ id hl W (R.o.below hb);have S:=ug w;cases hp:cR (bA l) id with
 | none=>
  have HN:Hid (qF (bA l) id=([],0)):=ae (by unfold qF;rw[hp]);have C1:=ae (C1.o id);rw[hp] at C1;simp only[fV] at C1;clear hp;rw[HN.o];go_enter func105,ntmps105
  go_wp2_with (go_at_call 103;refine je S (C1.o _ S.b) λW S=>?_)
  go_ret2;exact⟨_,rfl,ju _ _ _ _,S.b⟩
 | some i=>
  obtain⟨hi,x,hx,-⟩:=fy hp;have hg:=fW hx;obtain⟨b,o,rfl⟩:=hao au;have hi0: ¬((i:Int)<0):=au;have C2:=ae (C1.o id);rw[hp] at C2;simp only[fV] at C2;have HX:=ae hx;cases hs:x.snap with
  | true=>
   have H2:Hid (Value.bool x.snap=.bool true):=ae (by rw[hs]);have HN:Hid (qF (bA l) id=([],0)):=ae (by unfold qF;rw[hp];simp only[hg];rw[bC hs]);clear hp hx hg C1 hs;rw[HN.o];go_enter func105,ntmps105
   go_wp2_with (first|(go_at_call 103;refine je S (C2.o _ S.b) λW S=>?_)|((with_reducible refine cP 19 4 18 ?_);refine cV cm ?_;refine bM ((R.o.below S.b).at HX.o).c2 rfl gU ?_;rw[H2.o]))
   go_ret2;exact⟨_,rfl,ju _ _ _ _,S.b⟩
  | false=>
   have H2:Hid (Value.bool x.snap=.bool false):=ae (by rw[hs]);have HN:Hid (xf (bA l) id 32 [] x.prev=qF (bA l) id):=ae (by unfold qF;rw[hp];simp only[hg];rw[bX (by rw[hs];simp)]);obtain⟨WW,hWW⟩:=cM (qF (bA l) id);rw[hWW] at HN ⊢;clear hp hx hg hs hWW;go_enter func105,ntmps105
   go_upto_region 6 with(first|(with_reducible refine jo 25 82 24 ((R.o.below S.b).at HX.o).c4 ?_)|(go_at_call 103;refine je S (C2.o _ S.b) λW S=>?_)|((with_reducible refine cP 19 4 18 ?_);refine cV cm ?_;refine bM ((R.o.below S.b).at HX.o).c2 rfl gU ?_;rw[H2.o]))
   have S:=ae (S.yK 82 1 rfl rfl)
   go_loopw [7,8] (λc p wr=>∃(chain:aK) (prev f:Nat) (a:Option Addr) (q:Nat),chain.length+f=32/\c=.slice a chain.length q/\p=.int .u64 prev/\Hid (xf (bA l) id f chain prev=WW/\St w none [] [] [⟨82,1,.slice a chain.length q,chain.length,Eb chain⟩] (λ_ _=>True) wr)) (λc _ _=>match c with | .slice _ n _=>32 - n | _=>0)
   case atStart=>exact⟨[],x.prev,32,none,0,rfl,rfl,rfl,ae ⟨HN.o,S.o⟩⟩
   case round=>
    clear S HN C2;obtain⟨chain,prev,f,a,q,hf,rfl,rfl,hS⟩:=hrel;obtain⟨hgo,S⟩:=hS.o;clear hS;rcases Kl (prev=0) with rfl | h0
    . rw[Qs] at hgo;subst hgo;go_wp2;go_ret2;exact⟨_,rfl,S.o0,S.b⟩
    . have hne: ((prev:Int) != 0)=true:=by rw[lh];omega
      rcases Hy f with rfl | hf0
      . subst hgo;have hc: ¬((chain.length:Int)<32):=au;go_wp2;go_ret2;exact⟨_,rfl,S.o0,S.b⟩
      . obtain⟨f,rfl⟩: ∃g,f=g+1:=⟨f - 1,au⟩;have hc: ((chain.length:Int)<32):=au;have C3:=ae (C1.o prev);unfold xf at hgo;rw[bX h0] at hgo;rcases hp2:cR (bA l) prev with _ | j;rw[hp2] at hgo C3;simp only[fV] at C3;subst hgo;clear hp2
        rotate_left
        obtain⟨hj,y,hy,-⟩:=fy hp2;have hg2:=fW hy;have hj0: ¬((j:Int)<0):=au;rw[hp2] at hgo C3;simp only[fV] at C3;simp only[hg2] at hgo;have HY:=ae hy;obtain⟨ow,how⟩:=cM y.owner;have H3:Hid (Value.int .u64 y.owner=.int .u64 ow):=ae (by rw[how]);rw[how] at hgo;clear hy hg2 hp2 how;rcases Kl (ow=id) with rfl | hoi
        . rw[bC rfl] at hgo;have HGO:=ae hgo;clear hgo
          go_wp2_with (first
   |(with_reducible refine jo 55 82 54 ((R.o.below S.b).at HY.o).c4 ?_)
   |(go_at_call 103;refine je S (C3.o _ S.b) λW S=>?_)
   |((with_reducible refine cP 43 82 42 ?_);refine cV cm ?_;refine bM ((R.o.below S.b).at HY.o).c3 rfl bF ?_;rw[H3.o])
   |((with_reducible refine j6 49 78 1 ?_);refine eY S .u64 [(prev:Int)] Fi oJ au au rfl rfl rfl λW S=>?_)
   |((with_reducible refine bN 50 47 49 ?_);refine lZ S 0 rfl 0 rfl rfl rfl rfl TO (NA _ _) JW BM λg9 c9 W S=>?_))
          go_roundw
          case rel=>exact⟨chain++[prev],y.prev,f,s_ g9 0,c9,by simp;omega,by simp,rfl,ae ⟨HGO.o,by have S:=S.pop;unfold Eb;rw[pt,kh];exact S⟩⟩
          case measure=>simp;omega
        have hoi2: ((ow:Int) !=(id:Int))=true:=by rw[lh];omega
        rw[bX hoi] at hgo;subst hgo
        all_goals
         go_wp2_with (first
   |(go_at_call 103;refine je S (C3.o _ S.b) λW S=>?_)
   |((with_reducible refine cP 43 82 42 ?_);refine cV cm ?_;refine bM ((R.o.below S.b).at HY.o).c3 rfl bF ?_;rw[H3.o]))
         go_ret2;exact⟨_,rfl,S.o0,S.b⟩
theorem JY (l:List aZ)(v:bh)(id:Nat)(hl:l.length<=1000000)(w:aD)(R:cQ w v l):Calls prog 128 #[v,.int .u64 id] w λe w'=>∃r,e=.returned r/\D3 w' w.heap.size r (qF (bA l) id).1/\dp w w':=by
 have C1:=ae (RS l v id hl w R);clear R;go_enter func128,ntmps128
 go_wp2_with (go_at_call 105;refine C1.o.mono ?_;rintro e W ⟨r,rfl,ho,hb⟩;have HO:=ae ho;have HB:=ae hb)
 go_ret;exact⟨_,rfl,HO.o,HB.o⟩
theorem FX (l:List aZ)(v:bh)(id:Nat)(hl:l.length<=1000000)(w:aD)(R:cQ w v l):yr 45 #[v,.int .u64 id] w (.int .u64 ((qF (bA l) id).2:Nat)):=by
 have C1:=ae (RS l v id hl w R);clear R;go_enter func45,ntmps45
 go_wp2_with (go_at_call 105;refine C1.o.mono ?_;rintro e W ⟨r,rfl,ho,hb⟩;have HB:=ae hb)
 go_ret;exact⟨rfl,HB.o⟩
section
variable {f:α->List β}
theorem FY (hf: ∀x,(f x).length=z)(l:List α)(hk:k<l.length)(y:α){m:List β}(hm:m.length=l.length*z)(h1: ∀j,j<z->m[k*z+j]? =(f y)[j]?)(h2: ∀i j,i≠k->j<z->m[i*z+j]? =(l.flatMap f)[i*z+j]?):m=(l.set k y).flatMap f:=by
 apply EU;intro t;by_cases ht:t<l.length*z
 . rcases Hy z with rfl | hz
   . omega
   . have e:t=t / z*z+t % z:=by grind[div_add_mod]
     have hm2:t % z<z:=mod_lt _ hz;have hd:t / z<l.length:=by
      rw[div_lt_iff_lt_mul hz];exact ht
     rw[e,flat_get hf (l.set k y) rE hm2];by_cases hik:t / z=k
     . grind
     . rw[h2 _ _ hik hm2,flat_get hf l hd hm2,getElem_set_ne (yl hik)]
 grind[tf,length_set]
end
section
variable {x:Nat}
theorem uC (h:w.ownsRow base e z (.slice (some ⟨g,0,none⟩) n c) n xs): ∃(m:Nat) (f:Nat->bh),ag w g e m f/\n*z<=m:=by
 rcases h.2 with⟨h1,_⟩ | ⟨g',cap,cur,h1,h2,h3,h4,h5,h6,h7⟩
 . cases h1
 . simp only[mA,EZ,Addr.mk.injEq] at h1;obtain⟨⟨rfl,-,-⟩,-,rfl⟩:=h1;refine⟨cur.size,λi=>cur.getD i undef,?_,by simp_all[Sy]⟩;unfold ag;rw[h3];simp[ah]
theorem oP {w w':aD} {b:Nat} (h:ek b w w'):w.grownBy w' (some b):=⟨h.os,h.tape,h.output,h.size,λk hk hn=>h.block k hk (λe=>hn (by rw[e]))⟩
theorem Qt (S:St w0 d l L O X w)(j:Nat)(hj:O[j]? =some o)(hv:o.v=.slice (some ⟨g,0,none⟩) o.n c)(i:Nat)(hi:i<o.n*o.z)(hx:a.eval (.tmp x)=.pointer (some ⟨g,i,none⟩))(hy:a.eval q=v)(hv1:v.oneCell'=true)(ht:fZ P ty)(h: ∀W,St w0 d l L (O.set j ⟨o.e,o.z,o.v,o.n,o.xs.set i v⟩) X W->wpList P ops Q rest (a.put none undef) W):wpList P ops Q (⟨none,.store ty (.tmp x) q,t2,p,af,none⟩::rest) a w:=by
 have hO:=S.bR hj;rw[hv] at hO;obtain⟨m,f,hr,hm⟩:=uC hO;refine u' (iz hr (n:=1) au) hx hy hv1 ht (h _ ?_);have hb:o.v.ownBlock=some g:=by rw[hv];rfl
 exact S.grow hj (by grind[oP,kA]) (by rw[hv];exact(hO.stored i v).1) hb (.inl hb)
theorem Wn (S:St w0 d l L O X w)(j:Nat)(hj:O[j]? =some o)(hv:o.v=.slice (some ⟨g,0,none⟩) o.n c)(i:Nat)(hi:i*o.z+o.z<=o.n*o.z)(hx:a.eval (.tmp x)=.pointer (some ⟨g,i*o.z,none⟩))(hy:a.eval (.tmp y)=.agg A)(hA:A=ah o.z f)(ht:fu P ty o.z)(h1: ∀i,(f i).oneCell'=true)(h: ∀W,St w0 d l L (O.set j ⟨o.e,o.z,o.v,o.n,wq o.xs (i*o.z) (ah o.z f).toList⟩) X W->wpList P ops Q rest (a.put none undef) W):wpList P ops Q (⟨none,.store ty (.tmp x) (.tmp y),t2,p,af,none⟩::rest) a w:=by
 subst hA;have hO:=S.bR hj;rw[hv] at hO;obtain⟨m,f',hr,hm⟩:=uC hO;refine wpList_store_mid (op:=⟨none,.store ty (.tmp x) (.tmp y),t2,p,af,none⟩) rfl ty (.tmp x) (.tmp y) rfl g (i*o.z) (ah o.z f) hx hy (by grind[aj,iz]) (by rw[aj];exact ht.2) (iv f h1) (h _ ?_);have hb:o.v.ownBlock=some g:=by rw[hv];rfl
 exact S.grow hj (by grind[oP,ek.setCells]) (by grind[lA]) hb (.inl hb)
theorem Wo (S:St w0 d l L O X w)(ht:qj P ty e z by')(hq:a.eval q=.int .i64 n)(hr:a.eval r=.int .i64 n)(hb:by'*n<=281474976710656)(hn:n<=maxLen)(h1:df e=false)(h2:fk e=false)(hxs: ∀it zv,P.info? e=some it->it.zero=some zv->(madeCells zv.cells (n*z)).toList=xs)(h: ∀g W,St w0 d l L (⟨e,z,.slice (some ⟨g,0,none⟩) n n,n,xs⟩::O) X W->wpList P ops Q rest (a.put (some dst) (.slice (some ⟨g,0,none⟩) n n)) W):
 wpList P ops Q (⟨some dst,.makeSlice ty q r,t2,p,af,none⟩::rest) a w:=by
 obtain⟨hu,zv,hi,hz,h0⟩:=ht;obtain⟨it,hi1,hz0,hz1,hz2⟩:=sC hi;have hrun:=run_make w ty e it zv hu hi1 hz0 .i64 .i64 (n:Nat) (n:Nat) au au rE (by grind[maxLen]);simp only[BQ,hz1] at hrun;have hx:=hxs it zv hi1 hz0;refine sD rfl λK hK=>?_;unfold Oper.wp execOp;simp only[py,hq,hr,hrun,rj];have hs: (madeCells zv.cells (n*z)).size=n*z:=by rw[size_madeCells]
 refine hK _ _ (h _ _ (S.cU ((iU _ _).alloc (eO _) _) ⟨by grind,.inr ⟨w.heap.size,n,_,rfl,eO _,Ju w _,eO _,hn,hs,?_⟩⟩ h1 h2));rw[hx,tX]
 grind
end
structure cL where
 next:Nat
 bO:List cu
structure bx where
 next:Nat
 l:List aZ
 bI:Option Addr
 cap:Nat
def bx.t (b:bx):cL:=⟨b.next,bA b.l⟩
def bx.sv (b:bx):bh:=.slice b.bI b.l.length b.cap
def bg (b:bx):Nat->bh:=λi=>if i=0 then .int .u64 b.next else b.sv
theorem aT (b:bx): ∀i,(bg b i).oneCell'=true:=by intro i;unfold bg;split <;> rfl
instance in5bfc3 (x:bx):OF (bg x):=⟨aT x⟩
instance in4a6b3 (b:bx):CV (bg b) 0 (.int .u64 b.next):=⟨rfl⟩
instance inbb8f1 (b:bx):CV (bg b) 1 b.sv:=⟨rfl⟩
def dN (w:aD) (b:bx):Prop:=cQ w b.sv b.l
def oQ (w:aD) (base:Nat) (b:bx):Prop:=vi w base b.sv b.l
def gF (w':aD) (base:Nat) (B:iw) (t:cL):Prop:=∃c:bx,B=ah 2 (bg c)/\c.t=t/\oQ w' base c
def rY (b:cL):Prop:=b.bO.length<=1000000/\YF b.bO
theorem rY.len {b:bx}(h:rY b.t):b.l.length<=1000000:=by have:=h.1;grind[bx.t,dC]
theorem fe:fu prog 99 2:=⟨⟨_,underlying99,rfl⟩,cm⟩
instance in70724 :td 99 2:=⟨fe⟩
theorem fB:fZ prog 97:=⟨⟨_,underlying97,rfl⟩,cm⟩
instance in7ce2d :qD 97:=⟨fB⟩
def qO:bx:=⟨0,[],none,0⟩
theorem dM: (#[.int .u64 0,.slice none 0 0]:iw)=ah 2 (bg qO):=rfl
instance in159c4 :ZR 99 2 (bg qO):=⟨_,yo,dM⟩
theorem KY: (prog.info? 109).map (λi=>(i.zero,i.size,i.bytes))=some (some (.agg #[.int .u64 0,.string ⟨#[]⟩,.bool false,.int .u64 0,.int .u64 0,.int .u64 0,.int .i64 0,.int .i64 0,.int .u64 0,.int .u32 0,.slice none 0 0]),11,112):=cm
theorem AE:qj prog 97 109 11 112:=⟨underlying97,_,KY,rfl,au⟩
theorem TP (n:Nat): (madeCells (ah 11 (dy iA)) (n*11)).toList=dR (replicate n iA):=by
 apply EU;intro t;by_cases ht:t<n*11
 . have e:t=t / 11*11+t % 11:=au;have hm:t % 11<11:=mod_lt _ au;unfold dR
   conv=>rhs;rw[e]
   rw[flat_get uA (replicate n iA) sp_ hm];rw[getElem_replicate];unfold madeCells Mg;rw[qx,Array.getElem?_map,Array.getElem?_range,bC ht,qx,aF,bC hm];simp only[Va,aj,EZ];rw[Array.getElem!_eq_getD,Array.getD_eq_getD_getElem?,aF,bC hm];rfl
 grind[size_madeCells,iY]
section
variable {X':aK->aD->Prop}
theorem St.yu (S:St w0 d l L O X w)(hY:Still Y)(hy:Y (bE L O) w):St w0 d l L O (λB w=>X B w/\Y B w) w:=
 ⟨S.fr,S.row,S.own,S.lo,S.nd,⟨S.x,hy⟩,S.fs.still hY⟩
theorem St.uD (S:St w0 d l L O X w)(hb:dp w w'){y:aZ}(hy:dh w' w.heap.size y.dv y.dead):St w0 d l L O (λB w=>X B w/\Dq y B w) w':=
 (S.below hb).yu (vh y) ((mH.of hy).x λb h=>S.lt b h)
theorem St.vP (S:St w0 d l L O X w)(h: ∀B w,X B w->X' B w)(hs:gX d X'):St w0 d l L O X' w:=
 ⟨S.fr,S.row,S.own,S.lo,S.nd,h _ _ S.x,hs⟩
end
theorem RT (n:Nat)(it:TypeInfo)(zv:bh)(h:prog.info? 109=some it)(h2:it.zero=some zv): (madeCells zv.cells (n*11)).toList=dR (replicate n iA):=by
 have hi:=KY;rw[h] at hi;simp only[Va,h2,EZ,Prod.mk.injEq] at hi;rw[hi.1];exact TP n
theorem NC {m:List aZ}(hk:k<m.length)(y:aZ):wq (dR m) (k*11) (ah 11 (dy y)).toList=dR (m.set k y):=by
 refine FY uA m hk y (by rw[sV,iY]) (λj hj=>?_) λi j hik hj=>?_
 . rw[qi _ _ _ _ (by grind[aj,iY]),bC (by grind[aj]),show k*11+j - k*11=j by omega];rfl
 . rw[qi _ _ _ _ (by grind[aj,iY]),bX (by grind[aj])];rfl
theorem lC (m:List α)(hk:k<m.length)(y:α): (m.set k y).take (k+1)=m.take k++[y]:=by
 simp_all[EW,take_set_of_le]
theorem yO (l:List aZ)(hk:k<l.length):bA (l.take (k+1))=bA (l.take k)++[l[k].tocu]:=by
 grind[bA,take_succ_eq_append_getElem]
theorem KZ (k:Int)(a:Option Addr)(n c:Nat):prog.built 99 [(0,.int .u64 k),(1,.slice a n c)]=some #[.int .u64 k,.slice a n c]:=cm
def l5 (base:Nat) (x:aZ):Prop:=0<x.dead.length->∀b,x.dv.ownBlock=some b->base<=b
def jU (m:List aZ):aK->aD->Prop:=λB w=>∀x∈m,Dq x B w
theorem dF (m:List aZ):Still (jU m):=uz m λx _=>vh x
theorem FZ {m:List aZ}(hm:m.length=n)(h:w.ownsRow w0.heap.size 109 11 (.slice (some ⟨g,0,none⟩) n c) n (dR m))(h1:jU m B w)(h2: ∀x∈m,l5 w0.heap.size x):vi w w0.heap.size (.slice (some ⟨g,0,none⟩) m.length c) m:=by
 subst hm;exact⟨h,λx hx=>⟨(h1 x hx).1,h2 x hx⟩⟩
theorem k7 (b:bx)(A:iw)(hA:A=ah 2 (bg b))(hf:rY b.t)(w:aD)(R:dN w b):Calls prog 112 #[.agg A] w λe w'=>∃B,e=.returned (.agg B)/\gF w' w.heap.size B b.t/\dp w w':=by
 have hl:=hf.len;have hd:lS b.l:=hf.2;obtain⟨bn,l,ao,cap⟩:=b;change cQ w (.slice ao l.length cap) l at R;simp only at hl hd;obtain⟨n,hn⟩:=cM l.length;have hao:=(aR R.1);have R:=ae R;have HA:=ae hA;have hbk:bg ⟨bn,l,ao,cap⟩ 1=.slice ao n cap:=by rw[<-hn];rfl
 have HB1:=ae hbk;have HN:=ae hn;rw[hn] at R hl;have S:=ug w;obtain⟨ao',cap',he,hcap,hao⟩:=hao;simp only[mA] at he;obtain⟨rfl,-,rfl⟩:=he;rw[hn] at hcap hao;have hao:=ae hao;clear hA hbk hn hf;go_enter func112,ntmps112
 go_upto_region 3 with(first|((with_reducible refine gT 1 99 0 ?_);refine rQ S rfl HA.o rfl λW1 S=>?_)|((with_reducible refine pP ?_);refine O9 S 1 rfl 1 (v:=.slice ao n cap) HB1.o ?_)|((with_reducible refine qm 8 97 ?_);refine Wo S (n:=n) AE rfl rfl au BM rfl rfl (RT n) λg W S=>?_;replace S:=S.vP (X':=jU []) (λ_ _ _ x hx=>by cases hx) (dF []).fs)|refine ew λW S=>?_)
 have S:=ae S
 go_loopw [12] (λi wr=>∃(k:Nat) (m:List aZ),k<=n/\i=.int .i64 k/\Hid (m.length=n/\bA (m.take k)=bA (l.take k)/\(∀x∈m.take k,l5 w.heap.size x)/\St w none [] [⟨W1.heap.size,99,2,bg qO⟩,⟨w.heap.size,99,2,bg ⟨bn,l,ao,cap⟩⟩] [⟨109,11,.slice (s_ g 0) n n,n,dR m⟩] (jU (m.take k)) wr)) (λi _=>n - (intOf i).toNat)
 case atStart=>exact⟨0,replicate n iA,au,rfl,ae ⟨by simp,rfl,by simp,S.o⟩⟩
 case round=>
  clear S;obtain⟨k,m,hk,rfl,hS⟩:=hrel;obtain⟨hml,hsv,hfr,S⟩:=hS.o;clear hS;by_cases hlt:k<n
  . obtain⟨b,o,rfl⟩:=hao.o au;have hlt2:k<l.length:=by rw[HN.o];exact hlt
    obtain⟨x,hx⟩:=cM (l[k]);obtain⟨D,hD⟩:=gq (ah 11 (dy x));have hsub:=ae (iN l hlt2 (A:=D) (by rw[hx];exact hD));have HD:=ae hD;have hm:=tW hlt2;rw[hx] at hm;have C9:=ae λW (hb:dp w W)=>kR x D HD.o (hd.at hm).1 W ((R.o.below hb).2 x hm);have HX:=ae hx;have HS:=ae (And.intro hml (And.intro hsv hfr));have hmk:k<m.length:=au;have R1:Hid (ar w 109 11 (.slice (s_ b o) n cap) n (dR l)):=ae (by have:=R.o.1;rwa [HN.o] at this);clear hD hm hx hml hsv hfr
    go_wp2_with (first
   |((with_reducible refine pP ?_);first | refine O9 S 1 rfl 1 (v:=.slice (s_ b o) n cap) HB1.o ?_ | refine Md (R1.o.below S.b) hlt (DW HD) hsub.o ?_)
   |(go_at_call 115;refine(C9.o _ S.b).mono ?_;rintro e W ⟨B,y,rfl,hB,hY,hb⟩;have HB:=ae hB;have HF:=ae (show l5 w.heap.size y from λhn b hb=>kL S.fr.size ((mH.of hY.2).2 hn b hb));replace S:=S.uD hb hY.2;have HY:=ae hY.1;clear hb hB hY)
   |((with_reducible refine aS 109 23 22 ?_);refine Wn S 0 rfl rfl k (by show k*11+11<=n*11;omega) rfl rfl HB.o fQ (cy _) λW S=>?_))
    go_roundw
    case rel=>
     obtain⟨hml,hsv,hfr⟩:=HS.o;refine⟨k+1,m.set k y,au,by go_num,ae ⟨by rw[En];exact hml,?_,?_,?_⟩⟩
     . rw[lC m hmk,yO l hlt2,<-hsv,HX.o,<-HY.o];unfold bA;rw[pt];rfl
     . rw[lC m hmk];intro z hz;rcases jn.1 hz with h | h
       . exact hfr z h
       . rw[gz.1 h];exact HF.o
     . rw[lC m hmk,<-NC hmk y];refine S.vP (λB w h z hz=>?_) (dF _).fs;rcases jn.1 hz with h2 | h2
       . exact h.1 z h2
       . rw[gz.1 h2];exact h.2
    case measure=>exact uO
  . obtain rfl:k=n:=au;rw[tX au] at hsv hfr S;rw[tX (by rw[HN.o];exact eO _)] at hsv;have HS:=ae (And.intro hml (And.intro hsv hfr));obtain⟨D,hD⟩: ∃D:iw,D=#[.int .u64 bn,.slice (s_ g 0) k k]:=⟨_,rfl⟩;have hD2:D=ah 2 (bg ⟨bn,m,s_ g 0,k⟩):=by rw[hD,<-hml];rfl
    have HD:=ae hD;have HD2:=ae hD2;clear hD hD2 hml hsv hfr
    go_wp2_with (first|((with_reducible refine aY 28 99 ?_);refine eW (cells:=D) rfl (by rw[HD.o];exact KZ _ _ _ _) ?_)|(refine o7 ?_;exact⟨_,rfl,⟨⟨bn,m,s_ g 0,k⟩,rfl,by unfold bx.t;rw[HS.o.2.1],FZ HS.o.1 S.o0 S.x HS.o.2.2⟩,S.b⟩)|refine fN ?_|refine ew λW S=>?_)
theorem yP (p:cu->Bool)(l:List aZ)(v:bh)(hl:l.length<=1000000)(g:Nat)(cb:iw)(w:aD)(eg: ∀args w,(callFunc g args).run prog w=.ok (.enter g args) w)(R:cQ w v l)(hc: ∀(k:Nat) x A W,l[k]? =some x->A=ah 11 (dy x)->dp w W->Calls prog g (#[.agg A]++cb) W λe w'=>e=.returned (.bool (p x.tocu))/\dp W w'):
 yr 176 #[v,.func (.func g) #[] cb] w (.int .i64 (fV ((bA l).findIdx? p))):=by
 obtain⟨ao,cap,rfl,hcap,hao⟩:=aR R.1;have HC:=ae hc;clear hc;have R:=ae R;have hao:=ae hao;have S:=ae (ug w);go_enter func176,ntmps176
 go_upto_region 2 with(fail)
 go_loopw [8] (λi wr=>∃k:Nat,k<=l.length/\i=.int .i64 k/\Hid ((∀(j:Nat) y,(bA l)[j]? =some y->j<k->p y=false)/\St w none [] [] [] (λ_ _=>True) wr)) (λi _=>l.length - (intOf i).toNat)
 case atStart=>exact⟨0,au,rfl,ae ⟨λj y _ h=>by omega,S.o⟩⟩
 case round=>
  clear S;obtain⟨k,hk,rfl,hS⟩:=hrel;obtain⟨hold,S⟩:=hS.o;clear hS;by_cases hlt:k<l.length
  . obtain⟨b,o,rfl⟩:=hao.o au;obtain⟨x,hx⟩:=cM (l[k]);obtain⟨A,hA⟩:=gq (ah 11 (dy x));have hsub:=ae (iN l hlt (A:=A) (by rw[hx];exact hA));have hxs:l[k]? =some x:=by rw[j4 hlt,hx]
    have C1:=ae λW hb=>HC.o k x A W hxs hA hb;have HA:=ae hA;have HX:=ae hxs;have HH:=ae hold;clear hA hx hxs hold;cases hp:p x.tocu with
    | true=>
     have HP:=ae hp;rw[hp] at C1;clear hp
     go_wp2_with (first
   |((with_reducible refine pP ?_);refine Md (R.o.below S.b).1 hlt (DW HA) hsub.o ?_)
   |(show Calls _ _ _ _ _;refine je S (C1.o _ S.b) λW S=>?_))
     go_ret;have hp: (bA l).findIdx? p=some k:=vj (by rw[jH,HX.o];rfl) HP.o HH.o;exact⟨by rw[hp];rfl,S.b⟩
    | false=>
     have HP:=ae hp;rw[hp] at C1;clear hp
     go_wp2_with (first
   |((with_reducible refine pP ?_);refine Md (R.o.below S.b).1 hlt (DW HA) hsub.o ?_)
   |(show Calls _ _ _ _ _;refine je S (C1.o _ S.b) λW S=>?_))
     go_roundw
     case rel=>
      refine⟨k+1,au,by go_num,ae ⟨λj y hy hj=>?_,S⟩⟩;by_cases hjk:j=k
      . subst hjk;rw[jH,HX.o] at hy;cases hy;exact HP.o
      . exact HH.o j y hy au
     case measure=>exact uO
  . obtain rfl:k=l.length:=au;have hp: (bA l).findIdx? p=none:=vl (by rw[dC];exact hold);have HP:=ae hp;clear hp hold;go_wp2;go_ret;exact⟨by rw[HP.o];rfl,S.b⟩
theorem Ix (x:aZ)(A:iw)(hA:A=ah 11 (dy x))(id E:Nat)(w:aD)(h:ag w E 82 1 (λ_=>.int .u64 id)):yr 177 #[.agg A,.pointer (some ⟨E,0,none⟩)] w (.bool (decide (x.id=id))):=by
 have HA:=ae hA;have H:=ae h;clear hA h;have hd: (((x.id:Nat):Int)==((id:Nat):Int))=decide (x.id=id):=by
  grind
 have HD:=ae hd;clear hd;have S:=ug w;go_enter func177,ntmps177
 go_wp2_with (first|((with_reducible refine pP ?_);refine BN (ag.cell (H.o.below S.b) (i:=0) au) ?_)|refine fN ?_|refine ew λW S=>?_)
 go_ret;exact⟨by rw[HD.o];rfl,S.b⟩
theorem pZ (l:List aZ)(v:bh)(id:Nat)(hl:l.length<=1000000)(w:aD)(R:cQ w v l):yr 131 #[v,.int .u64 id] w (.int .i64 (fV (cR (bA l) id))):=by
 have R:=ae R;have eg: ∀args w,(callFunc 177 args).run prog w=.ok (.enter 177 args) w:=enters_of func177 cm rfl;have C1:=ae λ(cb:iw) W hR hc=>yP (λx=>decide (x.id=id)) l v hl 177 cb W eg hR hc;clear eg;have S:=ug w;go_enter func131,ntmps131
 go_wp2_with (first|(go_at_call 176;have hE:=λ(k:Nat) (x:aZ) (A:iw) W' (_:l[k]? =some x) (hA:A=ah 11 (dy x)) hb=>Ix x A hA id _ W' (ag.below S.k0 hb);refine(C1.o #[bZ _ 0] _ (R.o.below S.b) hE).mono ?_;clear hE;rintro e W ⟨rfl,hb⟩;replace S:=S.below hb)|refine ew λW S=>?_)
 go_ret;exact⟨rfl,S.b⟩
def qP (full:lf):Option lf:=
 match dQ full with
 | none=>none
 | some (v,s)=>if s=ov then some v else none
def k8 (full:lf):Option (lf×lf):=
 match dQ full with
 | none=>none
 | some (v,s)=>if s=ov then none else some (v,s)
theorem xg (s:lf)(hs:s.size<=1000000)(w:aD):yr 140 #[.string s] w (.tuple #[.string ((qP s).getD ov),.int .i64 (codeF 141 (qP s))]):=by
 have C1:=ae (nA s hs);have S:=ug w;rcases hn:dQ s with _ | p;have HV:Hid (qP s=none):=ae (by unfold qP;rw[hn]);rw[hn] at C1;clear hn
 rotate_left
 obtain⟨v,t⟩:=p;rw[hn] at C1;by_cases ht:t=ov;have HV:Hid (qP s=some v):=ae (by unfold qP;rw[hn];simp only[ht,wz]);subst ht;unfold ov at C1;clear hn
 rotate_left
 have HV:Hid (qP s=none):=ae (by unfold qP;rw[hn];simp only[ht,Jq]);have he:=qp ht;clear hn ht
 all_goals
  rw[HV.o];go_enter func140,ntmps140
  go_wp2_with (go_at_call 63;refine je S (C1.o _) λW S=>?_)
  go_ret2;exact⟨rfl,S.b⟩
theorem vp (s:lf)(hs:s.size<=1000000)(w:aD):yr 111 #[.string s] w (.tuple #[.string ((k8 s).getD (ov,ov)).1,.string ((k8 s).getD (ov,ov)).2,.int .i64 (codeF 141 (k8 s))]):=by
 have C1:=ae (nA s hs);have S:=ug w;rcases hn:dQ s with _ | p;have HV:Hid (k8 s=none):=ae (by unfold k8;rw[hn]);rw[hn] at C1;clear hn
 rotate_left
 obtain⟨v,t⟩:=p;rw[hn] at C1;by_cases ht:t=ov;have HV:Hid (k8 s=none):=ae (by unfold k8;rw[hn];simp only[ht,wz]);subst ht;unfold ov at C1;clear hn
 rotate_left
 have HV:Hid (k8 s=some (v,t)):=ae (by unfold k8;rw[hn];simp only[ht,Jq]);have he:=qp ht;clear hn ht
 all_goals
  rw[HV.o];go_enter func111,ntmps111
  go_wp2_with (go_at_call 63;refine je S (C1.o _) λW S=>?_)
  go_ret3;exact⟨rfl,S.b⟩
def jD (s:List cu) (full:lf):Option Nat:=(kZ s full).1.bind λk=>cR s (di s k).id
theorem K0 (s:List cu)(full:lf): (∃c:Int,c≠0/\kZ s full=(none,c))∨∃k,k<s.length/\kZ s full=(some k,0):=by
 unfold kZ;split
 . grind
 . split
   . grind
   . next i h1=>
     have hi:i<s.length:=(X1.1 h1).1;split
     . grind
     . split
       . grind
       . next j h2=>exact .inr ⟨j,(X1.1 h2).1,rfl⟩
theorem YF.get {s:List cu}(h:YF s)(k:Nat): (di s k).dead.length<=1000000/\(di s k).name.size<=1000:=by
 unfold di;rw[DZ];cases hk:s[k]? with
 | none=>exact⟨by decide,by decide⟩
 | some t=>exact h t (nf hk)
theorem ry (b:bx)(A:iw)(hA:A=ah 2 (bg b))(hf:rY b.t)(full:lf)(hfu:full.size<=1000000)(w:aD)(R:dN w b):yr 113 #[.agg A,.string full] w (.int .i64 (fV (jD b.t.bO full))):=by
 have hl:=hf.len;have HA:=ae hA;have R:=ae R;have C1:=ae λW (hb:dp w W)=>AP b.l b.sv full hfu hl hf.2 W (R.o.below hb);have C2:=ae λid W (hb:dp w W)=>pZ b.l b.sv id hl W (R.o.below hb);have S:=ug w;clear hA hf;show Calls _ _ _ _ λe w'=>e=.returned (.int .i64 (fV (jD (bA b.l) full)))/\_;rcases K0 (bA b.l) full with⟨c,hc,hn⟩ | ⟨k,hk,hn⟩
 . have HN:Hid (jD (bA b.l) full=none):=ae (by unfold jD;rw[hn];rfl);rw[hn] at C1;have hc1: (c != 0)=true:=lh.2 hc;clear hn hc;rw[HN.o];go_enter func113,ntmps113
   go_wp2_with (first|(go_at_call 107;refine(C1.o _ S.b).mono ?_;rintro e W ⟨B,rfl,⟨y,hB,hy,ho⟩,hb⟩;have HB:=ae hB;replace S:=S.below hb;clear hb hB hy)|refine fN ?_|refine ew λW S=>?_)
   go_ret;exact⟨rfl,S.b⟩
 . obtain⟨x,HX⟩:=qI ((di (bA b.l) k).id);have HN:Hid (jD (bA b.l) full=cR (bA b.l) x):=ae (by unfold jD;rw[hn,<-HX.o];rfl);rw[hn] at C1;rw[HN.o];clear hn;go_enter func113,ntmps113
   go_wp2_with (first|(go_at_call 107;refine(C1.o _ S.b).mono ?_;rintro e W ⟨B,rfl,⟨y,hB,hy,ho⟩,hb⟩;have HB:=ae hB;have HY:Hid (Value.int .u64 y.id=.int .u64 x):=ae (by rw[<-HX.o];show Value.int .u64 y.tocu.id=_;rw[hy];rfl);replace S:=S.below hb;clear hb hB hy)|((with_reducible refine pP ?_);refine O9 S 0 rfl 0 (v:=.int .u64 x) HY.o ?_)|(go_at_call 131;refine je S (C2.o x _ S.b) λW S=>?_)|refine fN ?_|refine ew λW S=>?_)
   go_ret;exact⟨rfl,S.b⟩
def oR (s:List cu) (full:lf):Option Nat×Int:=
 match qP full with
 | none=>(none,141)
 | some _=>match jD s full with
  | none=>(none,172)
  | some i=>(some i,0)
theorem Cj (b:bx)(A:iw)(hA:A=ah 2 (bg b))(hf:rY b.t)(full:lf)(hfu:full.size<=1000000)(w:aD)(R:dN w b):yr 127 #[.agg A,.string full] w (.tuple #[.int .i64 (fV (oR b.t.bO full).1),.int .i64 (oR b.t.bO full).2]):=by
 have HA:=ae hA;have R:=ae R;have C1:=ae (xg full hfu);have C2:=ae λW (hb:dp w W)=>ry b A hA hf full hfu W (R.o.below hb);have S:=ug w;clear hA hf;rcases hv:qP full with _ | vv;have HN:Hid (oR b.t.bO full=(none,141)):=ae (by unfold oR;rw[hv]);rw[hv] at C1
 rotate_left
 rw[hv] at C1;rcases hi:jD b.t.bO full with _ | i;have HN:Hid (oR b.t.bO full=(none,172)):=ae (by unfold oR;rw[hv];simp only[hi]);rw[hi] at C2;simp only[fV] at C2
 rotate_left
 have HN:Hid (oR b.t.bO full=(some i,0)):=ae (by unfold oR;rw[hv];simp only[hi]);rw[hi] at C2;simp only[fV] at C2;have hi0: ¬((i:Int)<0):=au
 all_goals
  first | clear hv hi | clear hv
  rw[HN.o];go_enter func127,ntmps127
  go_wp2_with (first|(go_at_call 140;refine je S (C1.o _) λW S=>?_)|(go_at_call 113;refine je S (C2.o _ S.b) λW S=>?_)|refine ew λW S=>?_|refine fN ?_)
  go_ret2;exact⟨rfl,S.b⟩
theorem St.xh (S:St w0 d l L O X w)(hb:dp w w'){m:List aZ}(ho:vi w' w.heap.size v m):
 St w0 d l L (⟨109,11,v,m.length,dR m⟩::O) (λB w=>X B w/\jU m B w) w':=by
 refine(S.cU hb ho.1 rfl rfl).yu (dF m) λx hx=>⟨(ho.2 x hx).1,λhn b hb2 hm=>?_⟩;have hf:=(ho.2 x hx).2 hn b hb2;have hty:=(ho.2 x hx).1.ty hb2 hn;rcases dx.1 hm with⟨r,hr,e⟩ | ⟨o,ho2,e⟩
 . have:=S.lt b (dx.2 (.inl ⟨r,hr,e⟩));omega
 . rcases iI.1 ho2 with rfl | ho2
   . have h9:=lP ho.1 e
     grind
   . have:=S.lt b (dx.2 (.inr ⟨o,ho2,e⟩));omega
def xi (b:cL) (s:cu):cL:=⟨jW b.next,b.bO++[s]⟩
theorem TQ (n:Nat):IntKind.u64.wrap ((n:Int)+1)=((jW n:Nat):Int):=by
 rfl
theorem Ck (b:bx)(A:iw)(hA:A=ah 2 (bg b))(hf:rY b.t)(s:aZ)(D:iw)(hD:D=ah 11 (dy s))(w:aD)(R:dN w b):
 Calls prog 116 #[.agg A,.agg D] w λe w'=>∃(B:iw) (m:List aZ) (ao:Option Addr) (c:Nat),e=.returned (.agg B)/\B=ah 2 (bg ⟨jW b.next,m++[s],ao,c⟩)/\bA m=bA b.l/\
  w'.ownsRow w.heap.size 109 11 (.slice ao (m.length+1) c) (m.length+1) (dR (m++[s]))/\(∀x∈m,mH w' w.heap.size x)/\dp w w':=by
 have hl:=hf.len;have HA:=ae hA;have HD:=ae hD;have R:=ae R;have C1:=ae λW (hb:dp w W)=>k7 b A hA hf W (R.o.below hb);have S:=ug w;obtain⟨bn,l,ba,bc⟩:=b;have hw:=TQ bn;simp only at hl;clear hA hf hD;go_enter func116,ntmps116
 go_wp2_with (first|(go_at_call 112;refine(C1.o _ S.b).mono ?_;rintro e W ⟨B,rfl,⟨⟨cn,m,ca,cc⟩,hB,hc,ho⟩,hb⟩;obtain⟨hcn,hcs⟩:=cL.mk.inj hc;simp only at hcn hcs;subst hcn;have HB:=ae hB;have HM:=ae hcs;have hml:m.length<=1000000:=(by have h9:=iS length hcs;rw[dC,dC] at h9;omega);have HF:=ae (show ∀x∈m,l5 w.heap.size x from λx hx hn b h9=>kL S.fr.size ((ho.2 x hx).2 hn b h9));replace S:=S.xh hb ho;change St _ _ _ _ (⟨109,11,.slice ca m.length cc,m.length,dR m⟩::_) _ _ at S;clear hb hB hc hcs)|((with_reducible refine bN 12 9 11 ?_);refine lZ S 0 rfl 0 rfl rfl rfl rfl AE (cy _) JW BM λg9 c9 W S=>?_)|((with_reducible refine aS 97 13 12 ?_);refine gu S 1 rfl 1 (bg ⟨cn,m++[s],s_ g9 0,c9⟩) (λj hj=>by have hj:j<2:=hj;rcases j with(_|_|j);rfl;show Value.slice _ (m++[s]).length _=_;rw[kh];rfl;omega) qv rfl rfl rfl fB λW S=>?_)|((with_reducible refine aS 82 17 16 ?_);refine gu S 1 rfl 0 (bg ⟨jW cn,m++[s],s_ g9 0,c9⟩) (λj hj=>by have hj:j<2:=hj;rcases j with(_|_|j);rfl;rfl;omega) qv rfl rfl rfl bF λW S=>?_;obtain⟨E,HE⟩:=BU (ah 2 (bg ⟨jW cn,m++[s],s_ g9 0,c9⟩)))|(refine o7 ?_;exact⟨_,m,_,_,rfl,rfl,HM.o,by rw[qq,Nv];exact S.o0,λx hx=>⟨(S.x.2 x hx).1,HF.o x hx⟩,S.b⟩)|refine fN ?_|refine ew λW S=>?_)
section
theorem St.F0 (S:St w0 d l L O X w)(hb:dp w w'){m:List aZ}(ho:w'.ownsRow w.heap.size 109 11 v m.length (dR m))(hd: ∀x∈m,rV w' x)(hf: ∀x∈m,0<x.dead.length->∀b,x.dv.ownBlock=some b->b∉bE L O):
 St w0 d l L (⟨109,11,v,m.length,dR m⟩::O) (λB w=>X B w/\jU m B w) w':=by
 refine(S.cU hb ho rfl rfl).yu (dF m) λx hx=>⟨hd x hx,λhn b hb2 hm=>?_⟩;have hty:=(hd x hx).ty hb2 hn;rcases dx.1 hm with⟨r,hr,e⟩ | ⟨o,ho2,e⟩
 . grind[dx]
 . rcases iI.1 ho2 with rfl | ho2
   . have h9:=lP ho e
     grind
   grind[dx]
theorem St.bB (S:St w0 d l L O X w)(hb:dp w w'){c:bx}(ho:oQ w' w.heap.size c):
 St w0 d l L (⟨109,11,c.sv,c.l.length,dR c.l⟩::O) (λB w=>X B w/\jU c.l B w) w':=S.xh hb ho
theorem St.fresh (S:St w0 d l L O X w){c:bx}(ho:oQ w' w.heap.size c): ∀x∈c.l,l5 w0.heap.size x:=
 λx hx hn b h9=>kL S.fr.size ((ho.2 x hx).2 hn b h9)
theorem St.dO {c:bx}(S:St w0 d l L (⟨109,11,c.sv,c.l.length,dR c.l⟩::O) (λB w=>X B w/\jU c.l B w) w)(hF: ∀x∈c.l,l5 w0.heap.size x):oQ w w0.heap.size c:=
 ⟨S.o0,λx hx=>⟨(S.x.2 x hx).1,hF x hx⟩⟩
end
theorem JZ {n:Rk}{t:cL}(S:St w0 d l L O X w)(C:Calls prog n args w λe w'=>∃B,e=.returned (F B)/\gF w' w.heap.size B t/\dp w w')(h: ∀W B c,Hid (B=ah 2 (bg c))->Hid (c.t=t)->Hid (∀x∈c.l,l5 w0.heap.size x)->St w0 d l L (⟨109,11,c.sv,c.l.length,dR c.l⟩::O) (λB w=>X B w/\jU c.l B w) W->R (.returned (F B)) W):Calls prog n args w R:=
 C.mono λe W ⟨B,he,⟨c,hB,hc,ho⟩,hb⟩=>by subst he;exact h W B c hB hc (S.fresh ho) (S.bB hb ho)
theorem AR (w:aD)(x:aZ)(h1:x.dead=[])(h2:x.bI=none)(h3:x.cap=0):rV w x:=by
 unfold rV aZ.dv;rw[h1,h2,h3];exact ar.nil _ _ _
def fz (b:cL) (full:lf) (blocks:Int):cL×Int:=
 match qP full with
 | none=>(b,141)
 | some vol=>if blocks<1∨64<blocks then(b,176) else if 32<=b.bO.length then(b,175) else
  match jD b.bO full with
  | some _=>(b,171)
  | none=>(xi b ⟨b.next,vol,false,b.next,0,0,blocks.toNat,hole,[]⟩,0)
theorem F1 (b:bx)(A:iw)(hA:A=ah 2 (bg b))(hf:rY b.t)(full:lf)(hfu:full.size<=1000000)(blocks:Int)(w:aD)(R:dN w b):
 Calls prog 77 #[.agg A,.string full,.int .i64 blocks] w λe w'=>∃B,e=.returned (.tuple #[.agg B,.int .i64 (fz b.t full blocks).2])/\gF w' w.heap.size B (fz b.t full blocks).1/\dp w w':=by
 have HA:=ae hA;have R:=ae R;have C1:=ae (xg full hfu);have C2:=ae λW (hb:dp w W)=>ry b A hA hf full hfu W (R.o.below hb);have C9:=ae λW (hb:dp w W)=>k7 b A hA hf W (R.o.below hb);have C3:=ae λs D hD W (hb:dp w W)=>Ck b A hA hf s D hD W (R.o.below hb);have S:=ug w;have hlen:b.l.length=b.t.bO.length:=(dC _).symm;clear hA hf;obtain⟨T,HT⟩:=qI (fz b.t full blocks);rw[HT.o];go_enter func77,ntmps77
 go_upto_region 2 with(first|(go_at_call 140;refine je S (C1.o _) λW S=>?_)|refine ew λW S=>?_)
 rcases hv:qP full with _ | vol;obtain rfl: (b.t,141)=T:=by rw[<-HT.o];unfold fz;rw[hv]
 rotate_left
 by_cases h1:blocks<1∨64<blocks;obtain rfl: (b.t,176)=T:=by rw[<-HT.o];unfold fz;rw[hv];simp only[h1,wz]
 rotate_left
 have h2: ¬blocks<1:=au;have h3: ¬64<blocks:=au;by_cases h4:32<=b.t.bO.length;obtain rfl: (b.t,175)=T:=by rw[<-HT.o];unfold fz;rw[hv];simp only[h1,h4,wz,Jq]
 have h5: (32:Int)<=(b.l.length:Int):=au
 rotate_left
 have h5: ¬(32:Int)<=(b.l.length:Int):=au;rcases hn:jD b.t.bO full with _ | i;obtain⟨n,rfl⟩: ∃n:Nat,blocks=n:=⟨blocks.toNat,au⟩;obtain rfl: (xi b.t ⟨b.next,vol,false,b.next,0,0,n,hole,[]⟩,0)=T:=by rw[<-HT.o];unfold fz;rw[hv];simp only[h1,h4,Jq,hn];rfl
 rw[hn] at C2;simp only[fV] at C2;obtain⟨D,hD⟩:=gq (ah 11 (dy ⟨⟨b.next,vol,false,b.next,0,0,n,hole,[]⟩,none,0⟩));have C4:=ae (C3.o _ D hD);have HD:=ae hD;clear hD C3
 rotate_left
 obtain rfl: (b.t,171)=T:=by rw[<-HT.o];unfold fz;rw[hv];simp only[h1,h4,Jq,hn]
 rw[hn] at C2;simp only[fV] at C2
 all_goals
  go_wp2_with (first|with_reducible refine jl 29 97 28 S 1 1 (.slice b.bI b.l.length b.cap) ?_|(go_at_call 112;refine JZ S (C9.o _ S.b) λW B c HB HC HF S=>?_)|(go_at_call 113;refine je S (C2.o _ S.b) λW S=>?_)|((with_reducible refine aY 47 109 ?_);refine eW (cells:=D) rfl (by rw[HD.o];kernel_rfl) ?_)|(go_at_call 116;refine(C4.o _ S.b).mono ?_;rintro e W ⟨B,m,ao,c,rfl,hB,hm,ho,hd,hb⟩;have HB:=ae hB;have HM:=ae hm;have HF:=ae (show ∀x∈m,l5 w.heap.size x from λx hx hn b h9=>kL S.fr.size ((hd x hx).2 hn b h9));replace S:=S.F0 hb (m:=m++[_]) (by rw[kh];exact ho) (λx hx=>by rcases jn.1 hx with h | h;exact(hd x h).1;rw[gz.1 h];exact AR _ _ rfl rfl rfl) (λx hx hn b h9 h8=>by rcases jn.1 hx with h | h;have:=(hd x h).2 hn b h9;have:=S.lt b h8;omega;grind);clear hb hB hd hm)|refine fN ?_|refine ew λW S=>?_|(refine o7 ?_;exact⟨_,rfl,⟨c,rfl,HC.o,S.dO HF.o⟩,S.b⟩)|(refine o7 ?_;exact⟨_,rfl,⟨_,rfl,by unfold bx.t xi bA;rw[pt];simp only;rw[show map aZ.tocu m=bA m from rfl,HM.o];rfl,by have h9:=S.o0;exact⟨by unfold bx.sv;rw[kh] at h9 ⊢;exact h9,λx hx=>⟨(S.x.2 x hx).1,by rcases jn.1 hx with h | h;exact HF.o x h;grind⟩⟩⟩,S.b⟩))
def SE1 (w0:aD) (d:Option Nat) (l:aK) (rs:List R4):aD->Prop:=λW=>∃L O X,St w0 d l L O X W/\∀r∈rs,r∈L
theorem SE1.row (h:SE1 w0 d l rs W)(k:Nat){r:R4}(hk:rs[k]? =some r):ag W r.b r.t r.n r.f:=by
 obtain⟨L,O,X,S,hr⟩:=h;exact(S.row r (hr r (nf hk))).1
theorem SE1.fr {w0 W:aD} {d:Option Nat} {l:aK} {rs:List R4} (h:SE1 w0 d l rs W):Fr d l w0 W:=by
 obtain⟨L,O,X,S,hr⟩:=h;exact S.fr
theorem bf (S:St w0 d l L O X w)(hm:P.follows .mixedOrders=true)(rs:List R4)(hr: ∀r∈rs,r∈L)(h: ∀W,St w0 d l L O X W->wpAnyH P .any ops Q (SE1 w0 d l rs) ops.size (Array.replicate ops.size false) a W): (Code.region id ops true).wp P Q a w:=
 wp_region_held_drew hm ⟨L,O,X,S.drew,hr⟩ λ_=>h _ S.drew
theorem pH {l:List aZ}(h:jD (bA l) full=some k): ∃x,l[k]? =some x:=by
 unfold jD at h;cases hn: (kZ (bA l) full).1 with
 | none=>grind
 | some j=>
  grind[fy,di,bA]
theorem ND {x:Nat}{o:Nat}{s:aZ}(hR: ∀w,SS w->kQ w b o s)(hx:a.eval (.tmp x)=.pointer (some ⟨b,o+7,none⟩))(hA:A=ah 3 (aN s.root))(hw:Region.wanted ⟨some dst,.load 106 (.tmp x),t2,pp,af,gd⟩ (yielded ops a.tmps)=true:=by kernel_rfl):YieldsIf prog ops SS ⟨some dst,.load 106 (.tmp x),t2,pp,af,gd⟩ (.agg A) a:=by
 obtain⟨⟨dd,hu,hd⟩,hi⟩:=bd;have h:=yieldsIf_load_mid (P:=prog) (S:=SS) (op:=⟨some dst,.load 106 (.tmp x),t2,pp,af,gd⟩) (ops:=ops) hw 106 (.tmp x) rfl b (o+7) hx A.toList dd (λw h=>?_) hu hd (by grind[aj])
 . omega
 . intro j v hv;rw[hA,qx (xs:=ah 3 _),aF] at hv;split at hv
   . next hj=>
     cases hv;rw[Vb,hR w h (7+j) au];unfold dy
     grind
   . cases hv
def fY (b:cL) (fro too:lf):cL×Int:=
 match k8 fro with
 | none=>(b,141)
 | some _=>match qP too with
  | none=>(b,141)
  | some vol=>match jD b.bO fro with
   | none=>(b,172)
   | some i=>if 32<=b.bO.length then(b,175) else match jD b.bO too with
    | some _=>(b,171)
    | none=>(xi b ⟨b.next,vol,false,b.next,(di b.bO i).id,0,(di b.bO i).blocks,(di b.bO i).root,[]⟩,0)
theorem Iy (b:bx)(A:iw)(hA:A=ah 2 (bg b))(hf:rY b.t)(fro too:lf)(hfr:fro.size<=1000000)(hto:too.size<=1000000)(w:aD)(R:dN w b):
 Calls prog 97 #[.agg A,.string fro,.string too] w λe w'=>∃B,e=.returned (.tuple #[.agg B,.int .i64 (fY b.t fro too).2])/\gF w' w.heap.size B (fY b.t fro too).1/\dp w w':=by
 have HA:=ae hA;have HR:=ae R;have C1:=ae (vp fro hfr);have C5:=ae (xg too hto);have C2:=ae λW (hb:dp w W)=>ry b A hA hf fro hfr W (HR.o.below hb);have C6:=ae λW (hb:dp w W)=>ry b A hA hf too hto W (HR.o.below hb);have C9:=ae λW (hb:dp w W)=>k7 b A hA hf W (HR.o.below hb);have C3:=ae λs D hD W (hb:dp w W)=>Ck b A hA hf s D hD W (HR.o.below hb);have S:=ug w;have hlen:b.l.length=b.t.bO.length:=(dC _).symm;obtain⟨ao,cap,-,hcap,hao⟩:=aR R.1;clear hA hf;obtain⟨T,hT⟩:=cM (fY b.t fro too);have HT:=ae hT;rw[hT];clear hT;go_enter func97,ntmps97
 go_upto_region 2 with(first|(go_at_call 111;refine je S (C1.o _) λW S=>?_)|refine ew λW S=>?_)
 cases hv:k8 fro with
 | none=>
  obtain rfl: (b.t,141)=T:=by rw[<-HT.o];unfold fY;rw[hv]
  go_wp2_with (first|(go_at_call 112;refine JZ S (C9.o _ S.b) λW B c HB HC HF S=>?_)|(refine o7 ?_;exact⟨_,rfl,⟨c,rfl,HC.o,S.dO HF.o⟩,S.b⟩)|refine fN ?_|refine ew λW S=>?_)
 | some vv=>
  go_upto_region 5 with(go_at_call 140;refine je S (C5.o _) λW S=>?_)
  cases hv2:qP too with
  | none=>
   obtain rfl: (b.t,141)=T:=by rw[<-HT.o];unfold fY;rw[hv];simp only[hv2]
   go_wp2_with (first|(go_at_call 112;refine JZ S (C9.o _ S.b) λW B c HB HC HF S=>?_)|(refine o7 ?_;exact⟨_,rfl,⟨c,rfl,HC.o,S.dO HF.o⟩,S.b⟩)|refine fN ?_|refine ew λW S=>?_)
  | some vol=>
   go_upto_region 8 with(first|(go_at_call 113;refine je S (C2.o _ S.b) λW S=>?_)|refine fN ?_)
   cases hn:jD b.t.bO fro with
   | none=>
    obtain rfl: (b.t,172)=T:=by rw[<-HT.o];unfold fY;rw[hv];simp only[hv2,hn]
    simp only[fV]
    go_wp2_with (first
   |(go_at_call 112;refine JZ S (C9.o _ S.b) λW B c HB HC HF S=>?_)
   |(refine o7 ?_;exact⟨_,rfl,⟨c,rfl,HC.o,S.dO HF.o⟩,S.b⟩)
   |refine fN ?_
   |refine ew λW S=>?_)
   | some i=>
    simp only[fV];have hi0: ¬((i:Int)<0):=au;by_cases h4:32<=b.t.bO.length
    . obtain rfl: (b.t,175)=T:=by rw[<-HT.o];unfold fY;rw[hv];simp only[hv2,hn,h4,wz]
      have h5: (32:Int)<=(b.l.length:Int):=au
      go_wp2_with (first
   |(with_reducible first|refine jl 44 97 43 S 1 1 (.slice b.bI b.l.length b.cap) ?_)
   |(go_at_call 112;refine JZ S (C9.o _ S.b) λW B c HB HC HF S=>?_)
   |(refine o7 ?_;exact⟨_,rfl,⟨c,rfl,HC.o,S.dO HF.o⟩,S.b⟩)
   |refine fN ?_
   |refine ew λW S=>?_)
    . have h5: ¬(32:Int)<=(b.l.length:Int):=au
      go_upto_region 12 with(with_reducible refine jl 44 97 43 S 1 1 (.slice b.bI b.l.length b.cap) ?_)
      cases hn2:jD b.t.bO too with
      | some j=>
       obtain rfl: (b.t,171)=T:=by rw[<-HT.o];unfold fY;rw[hv];simp only[hv2,hn,h4,Jq,hn2]
       rw[hn2] at C6;simp only[fV] at C6
       go_wp2_with (first
   |(go_at_call 113;refine je S (C6.o _ S.b) λW S=>?_)
   |(go_at_call 112;refine JZ S (C9.o _ S.b) λW B c HB HC HF S=>?_)
   |(refine o7 ?_;exact⟨_,rfl,⟨c,rfl,HC.o,S.dO HF.o⟩,S.b⟩)
   |refine fN ?_
   |refine ew λW S=>?_)
      | none=>
       rw[hn2] at C6;simp only[fV] at C6;obtain⟨x,hx⟩:=pH hn;have hil:=(sy.1 hx).1;have hil2: (i:Int)< (b.l.length:Int):=au;have hg:di b.t.bO i=x.tocu:=fW hx;obtain rfl: (xi b.t ⟨b.next,vol,false,b.next,x.id,0,x.blocks,x.root,[]⟩,0)=T:=by rw[<-HT.o];unfold fY;rw[hv];simp only[hv2,hn,h4,Jq,hn2,hg];rfl
       obtain⟨D,hD⟩:=gq (ah 11 (dy ⟨⟨b.next,vol,false,b.next,x.id,0,x.blocks,x.root,[]⟩,none,0⟩));obtain⟨G,hG⟩:=gq (ah 3 (aN x.root));have C4:=ae (C3.o _ D hD);have HD:=ae hD;have HG:=ae hG;obtain⟨bb,oo,hbo⟩: ∃bb oo,b.bI=s_ bb oo:=by
        obtain⟨_,_,e1,_,h⟩:=aR R.1;unfold bx.sv at e1;simp only[mA] at e1;obtain⟨h1,o1,h2⟩:=h au;exact⟨h1,o1,by rw[e1.1];exact h2⟩
       have HBV:Hid (bg b 1=.slice (s_ bb oo) b.l.length b.cap):=ae (by rw[<-hbo];rfl);have R9:cQ w (.slice (s_ bb oo) b.l.length b.cap) b.l:=by have:=R;unfold dN bx.sv at this;rwa [hbo] at this
       have HX:=ae (R9.at hx);clear hD C3 hG
       go_upto_region 15 with(first
   |(go_at_call 113;refine je S (C6.o _ S.b) λW S=>?_)
   |((with_reducible refine pP ?_);refine O9 S 1 rfl 1 (v:=.slice (s_ bb oo) b.l.length b.cap) HBV.o ?_)
   |refine fN ?_)
       refine bf S cm [⟨w.heap.size,99,2,bg b⟩] L9 λW S=>?_;refine gY 0 59 (.agg A) rfl (lq (λw h=>h.row 0 rfl) rfl HA.o fe) ?_;refine bp 1 60 (bZ w.heap.size 0) ?_;refine bp 2 61 (.int .u64 b.next) ?_;refine bp 3 62 _ ?_;refine bp 4 63 (bZ w.heap.size 0) ?_;refine bp 5 64 (.int .u64 b.next) ?_;refine bp 6 65 _ ?_;refine bp 7 66 (bZ bb (oo+i*11)) ?_;refine bp 8 67 (bZ bb (oo+i*11)) ?_;refine gY 9 68 (.int .u64 x.id) rfl (bP (λw h=>(HX.o.below h.fr.below).c0) rfl bF) ?_;refine bp 10 69 _ ?_;refine bp 11 70 (bZ bb (oo+i*11)) ?_;refine bp 12 71 (bZ bb (oo+i*11+6)) ?_;refine gY 13 72 (.int .i64 x.blocks) rfl (bP (λw h=>(HX.o.below h.fr.below).c6) rfl kX) ?_;refine bp 14 73 _ ?_;refine bp 15 74 (bZ bb (oo+i*11)) ?_;refine bp 16 75 (bZ bb (oo+i*11+7)) ?_;refine gY 17 76 (.agg G) rfl (ND (λw h=>HX.o.below h.fr.below) rfl HG.o) ?_;refine gY 18 77 (.agg D) rfl (pf rfl (by rw[HD.o,HG.o];kernel_rfl)) ?_;refine mO 19 λK hK=>?_
       go_wp2_with fail
       refine(C4.o _ S.b).mono ?_;rintro e W ⟨B,m,ao2,c,rfl,hB,hm,ho,hd,hb⟩;have HB:=ae hB;have HM:=ae hm;have HF:=ae (show ∀x∈m,l5 w.heap.size x from λx hx hn b h9=>kL S.fr.size ((hd x hx).2 hn b h9));replace S:=S.F0 hb (m:=m++[_]) (by rw[kh];exact ho) (λx hx=>by rcases jn.1 hx with h | h;exact(hd x h).1;rw[gz.1 h];exact AR _ _ rfl rfl rfl) (λx hx hn b h9 h8=>by rcases jn.1 hx with h | h;have:=(hd x h).2 hn b h9;have:=S.lt b h8;omega;grind);clear hb hB ho hd hm;refine gM hK ?_;clear hK K;refine mO 20 λK hK=>?_;refine dL S 0 rfl rfl rfl HB.o fe (aT _) λW S=>?_;refine gM hK ?_;clear hK K;refine bp 21 7 _ ?_;refine uy ?_
       go_wp2_with (refine o7 ?_;exact⟨_,rfl,⟨_,rfl,by unfold bx.t xi bA;rw[pt];simp only;rw[show map aZ.tocu m=bA m from rfl,HM.o];rfl,by have h9:=S.o0;exact⟨by unfold bx.sv;rw[kh] at h9 ⊢;exact h9,λx hx=>⟨(S.x.2 x hx).1,by rcases jn.1 hx with h | h;exact HF.o x h;grind⟩⟩⟩,S.b⟩)
section
variable {x:Nat}
theorem RU (hth:w.there b i 1)(hx:a.eval (.tmp x)=.pointer (some ⟨b,i,none⟩))(hy:a.eval q=v)(hv:v.oneCell'=true)(ht:fZ P ty)(h:K (a.put none undef) (w.setCell ⟨b,i,none⟩ v)):Oper.wp P ⟨none,.store ty (.tmp x) q,t2,p,af,none⟩ a w K Q:=by
 have h1:=Tz (P:=P) b i [v] 0 w (λj hj=>by simpa using(hth j au).1) (λj hj=>by simpa using(hth j au).2) (λu hu=>by grind);have hc:v.cells=#[v]:=by cases v <;> first | rfl | cases hv
 have h2: (storeVar ty ⟨b,i,none⟩ v).run P w=.ok () (w.setCell ⟨b,i,none⟩ v):=by
  cases hq:P.info? ty with
  | none=>have:=ht.2;grind
  | some it=>
   have hs:it.size=1:=by have:=ht.2;grind
   simp only[CI] at h1;simp[storeVar,sizeOf,typeInfo,hq,hc,hs,h1];rfl
 unfold Oper.wp execOp;simp only[hx,hy,Instr.storeAt,Instr.sureAddr,py,wB,rj,h2];exact h
theorem F2 (S:St w0 d l L O X w)(j:Nat)(hj:O[j]? =some o)(hv:o.v=.slice (some ⟨g,0,none⟩) o.n c)(i:Nat)(hi:i<o.n*o.z)(hx:a.eval (.tmp x)=.pointer (some ⟨g,i,none⟩))(hy:a.eval q=v)(hv1:v.oneCell'=true)(ht:fZ P ty)(h: ∀W,St w0 d l L (O.set j ⟨o.e,o.z,o.v,o.n,o.xs.set i v⟩) X W->K (a.put none undef) W):Oper.wp P ⟨none,.store ty (.tmp x) q,t2,p,af,none⟩ a w K Q:=by
 have hO:=S.bR hj;rw[hv] at hO;obtain⟨m,f,hr,hm⟩:=uC hO;refine RU (iz hr (n:=1) au) hx hy hv1 ht (h _ ?_);have hb:o.v.ownBlock=some g:=by rw[hv];rfl
 exact S.grow hj (by grind[oP,kA]) (by rw[hv];exact(hO.stored i v).1) hb (.inl hb)
end
theorem pI {m:List aZ}(hk:k<m.length){x:aZ}(hx:m[k]=x)(j:Nat)(hj:j<11)(v:bh)(y:aZ)(h: ∀i,i<11->dy y i=if i=j then v else dy x i): (dR m).set (k*11+j) v=dR (m.set k y):=by
 refine FY uA m hk y (by grind[iY]) (λi hi=>?_) λi r hik hr=>?_
 . unfold Mg;rw[qx (xs:=ah 11 _),aF,bC hi,h i hi];by_cases hij:i=j
   . subst hij;rw[getElem?_set_self (by rw[iY];omega),bC rfl]
   . rw[getElem?_set_ne au,bX hij,iN m hk (A:=ah 11 (dy x)) (by rw[hx]) i hi,aF,bC hi]
 grind[dR]
theorem qG {full vol snap:lf} (h:dQ full=some (vol,snap)):cq vol=true:=by
 grind[dQ]
theorem K1 {vol snap:lf}(h:k8 full=some (vol,snap)):vol.size<=1000000:=by
 grind[k8,iq,qG]
def eR (b:cL) (full:lf) (ay:Nat):cL×Int:=
 match k8 full with
 | none=>(b,141)
 | some (vol,snap)=>match jD b.bO vol with
  | none=>(b,172)
  | some i=>if 32<=b.bO.length then(b,175) else match jD b.bO full with
   | some _=>(b,171)
   | none=>if ay<1∨281474976710655<ay∨ay<=iO b.bO (di b.bO i).id then(b,176) else
    (⟨jW b.next,(b.bO++[{di b.bO i with id:=b.next,name:=snap,snap:=true,owner:=(di b.bO i).id,ay:=ay}]).set i {di b.bO i with prev:=b.next,dead:=[]}⟩,0)
end Go.Proofs.YtklligbjoplbgaaGreat
