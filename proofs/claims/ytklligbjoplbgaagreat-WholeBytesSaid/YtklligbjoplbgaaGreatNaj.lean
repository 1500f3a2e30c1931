/- Part 10 of 15 of the proof of WholeBytes; no conditions. -/
import Derived.Test.YtklligbjoplbgaaGreatNai
import Derived.Maps.OwnSet
import Derived.Maps.OwnOps
import Derived.DeepKeys4
namespace Go.Proofs.YtklligbjoplbgaaGreat
set_option linter.all false
set_option maxRecDepth 100000
set_option maxHeartbeats 64000000
open Go.RowKit Lib List Nat _root_.Go.Proofs.Tryz Go.Shelf
variable {A tmps:iw}{a:Act}{af:Array Edge}{ops:Array Oper}{R:Ending->aD->Prop}{Q:Exit->Act->aD->Prop}{fn:Func}{B bI l2 ls sp t:aK}{X X':aK->aD->Prop}{l:List (Int×Int)}{seen:List (Nat×lf)}{bs log:List Int}{ms:List fL}{O:List O4}{rest:List Oper}{ps:List aq}{L:List R4}{kl:Lit}{b base by' dst g i id k m n n1 n2 o x y z:Nat}{c:Nat×lf}{st:Nat->Nat}{f:Nat->bh}{a' ao:Option Addr}{d d2:Option Nat}{P:pw}{s:Pl}{p1 p2 q r1 r2 root:aq}{p:String}{e t2 ty:dD}{key v:bh}{w w' w0:aD}
theorem N5 (bI:aK) (a:Pl×(List aq×Int)) (b:aK): (kC bI a b).1.dv.ops<=a.1.dv.ops+1:=by
 unfold kC;split
 . omega
 grind[oh]
theorem Lk (bI:aK) (a:Pl×(List aq×Int)) (b:List aq): (fG bI a b).1.dv.ops<=a.1.dv.ops+1:=by
 unfold fG;split
 . omega
 . split
   . grind
   grind[oh]
theorem uH {α β:Type} {f:Pl×β->α->Pl×β} (h: ∀a x,(f a x).1.dv.ops<=a.1.dv.ops+1): ∀(l:List α) (a:Pl×β),(l.foldl f a).1.dv.ops<=a.1.dv.ops+l.length
 | [],a=>eO _
 | x::l,a=>by
  rw[Hz,o8];have:=uH h l (f a x);have:=h a x;omega
theorem Bd (s:Pl)(bs bI:aK): (dt s bs bI).1.dv.ops<=s.dv.ops+cw bs.length 128:=by
 grind[dt,uH,N5]
theorem yV (s:Pl)(ps:List aq)(bI:aK): (dk s ps bI).1.dv.ops<=s.dv.ops+cw ps.length 8:=by
 grind[dk,uH,Lk]
theorem N6 {a:Pl×(List aq×Int)}{b:aK}(h: (kC bI a b).2.2=0):a.2.2=0/\(kC bI a b).2.1.length=a.2.1.length+1:=by
 unfold kC at h ⊢
 grind
theorem Ll {a:Pl×(List aq×Int)}{b:List aq}(h: (fG bI a b).2.2=0):a.2.2=0/\(fG bI a b).2.1.length=a.2.1.length+1:=by
 unfold fG at h ⊢
 grind
theorem Ge {α:Type} {f:Pl×(List aq×Int)->α->Pl×(List aq×Int)} (h: ∀a x,(f a x).2.2=0->a.2.2=0/\(f a x).2.1.length=a.2.1.length+1): ∀(l:List α) (a:Pl×(List aq×Int)),(l.foldl f a).2.2=0->a.2.2=0/\(l.foldl f a).2.1.length=a.2.1.length+l.length
 | [],a,h0=>⟨h0,rfl⟩
 | x::l,a,h0=>by
  rw[Hz] at h0 ⊢;obtain⟨h1,h2⟩:=Ge h l (f a x) h0;obtain⟨h3,h4⟩:=h a x h1;exact⟨h3,by rw[h2,h4,o8];omega⟩
theorem Be {bs:aK}(h: (dt s bs bI).2.2=0): (dt s bs bI).2.1.length=cw bs.length 128:=by
 unfold dt at h ⊢;have:=(Ge (λa x=>N6) _ _ h).2
 grind
theorem yW (h: (dk s ps bI).2.2=0): (dk s ps bI).2.1.length=cw ps.length 8:=by
 unfold dk at h ⊢;have:=(Ge (λa x=>Ll) _ _ h).2
 grind
theorem Gf {α:Type} {f:Pl×(List aq×Int)->α->Pl×(List aq×Int)} (h: ∀a x,(f a x).2.2≠0->a.2.2≠0/\f a x=a∨(f a x).2.1=[]): ∀(l:List α) (a:Pl×(List aq×Int)),(a.2.2≠0->a.2.1=[])->(l.foldl f a).2.2≠0->(l.foldl f a).2.1=[]
 | [],a,ha,h0=>ha h0
 | x::l,a,ha,h0=>by
  rw[Hz] at h0 ⊢;exact Gf h l (f a x) (λhc=>(h a x hc).elim (λ⟨h1,h2⟩=>by rw[h2];exact ha h1) id) h0
theorem Bf (s:Pl)(bs bI:aK)(h: (dt s bs bI).2.2≠0): (dt s bs bI).2.1=[]:=by
 unfold dt at h ⊢;refine Gf (λa x hc=>?_) _ _ (λ_=>rfl) h;unfold kC at hc ⊢
 grind
theorem yX (s:Pl)(ps:List aq)(bI:aK)(h: (dk s ps bI).2.2≠0): (dk s ps bI).2.1=[]:=by
 unfold dk at h ⊢;refine Gf (λa x hc=>?_) _ _ (λ_=>rfl) h;unfold fG at hc ⊢
 grind
theorem yY (f s:Nat):s<=(jF f s).sum:=by
 cases f<;>grind[jF]
theorem Lm:zM prog 81 1:=⟨cm,λW=>by rfl⟩
def abn:bh->Nat
 | .slice _ n _=>n
 | _=>0
structure Ln (f:Nat) (a:Pl×(List aq×Int)) (left:Nat):Prop where
 ops:a.1.dv.ops+1000*f<=998030000
 ok:a.2.2=0->∃g,g<f/\left+a.2.1.length=(jF g a.2.1.length).sum/\1<=a.2.1.length/\a.2.1.length<=512/\a.2.1.length<=8 ^ g
 err:a.2.2≠0->a.2.1=[]
def oj:Nat->Pl×(List aq×Int)->aK->Pl×(List aq×Int)
 | 0,a,_=>a
 | f+1,a,bI=>if a.2.2=0/\1<a.2.1.length then oj f (dk a.1 a.2.1 bI) (bI.drop (dk a.1 a.2.1 bI).2.1.length) else a
def fp (s:Pl) (bs bI:aK):Pl×(aq×Int):=
 if mD (bs.length:Nat)=0∨bI.length≠mD (bs.length:Nat) then(s,(hole,121)) else
 let r:=oj 20 (dt s bs bI) (bI.drop (dt s bs bI).2.1.length)
 if r.2.2≠0 then(r.1,(hole,r.2.2)) else(r.1,(r.2.1.headD hole,0))
theorem Lo (s:Pl)(ps:List aq)(bI:aK): (dk s ps bI).2.1.length<=cw ps.length 8:=by
 by_cases h: (dk s ps bI).2.2=0
 . simp_all[yW]
 simp_all[yX]
theorem Bg: ∀(f:Nat) (a:Pl×(List aq×Int)) (bI:aK),(oj f a bI).1.dv.ops<=a.1.dv.ops+2*a.2.1.length
 | 0,a,_=>Eo _ _
 | f+1,a,bI=>by
  unfold oj;split
  . next h=>
    have h1:=Bg f (dk a.1 a.2.1 bI) (bI.drop (dk a.1 a.2.1 bI).2.1.length);have h2:=yV a.1 a.2.1 bI;have h3:=Lo a.1 a.2.1 bI;have h4:cw a.2.1.length 8=(a.2.1.length+7) / 8:=rfl;omega
  . omega
theorem qZ (s:Pl) (bs bI:aK): (fp s bs bI).1.dv.ops<=s.dv.ops+2000:=by
 unfold fp;split
 . grind
 . next h=>
   have hn:bs.length<=65535:=by
    have h9:mD (bs.length:Nat)≠0:=λe=>h (.inl e);unfold mD levels at h9
    grind
   have h1:=Bd s bs bI;have h2:=Bg 20 (dt s bs bI) (bI.drop (dt s bs bI).2.1.length);have h3: (dt s bs bI).2.1.length<=cw bs.length 128:=by
    by_cases h: (dt s bs bI).2.2=0
    . simp_all[Be]
    simp_all[Bf]
   have h4:cw bs.length 128=(bs.length+127) / 128:=rfl
   grind
theorem Bh (P D M0:Nat)(s:Pl)(hops:s.dv.ops<=998000000)(bs:aK)(hbl:bs.length<=100000)(v:bh)(bI:aK)(av:bh)(ham:bI.length<=100000)(hat: ∀x∈bI,x<=1000000)(w:aD)(h:bH w P D M0 s)(R:eX w 5 v bs)(RA:ar w 3 1 av bI.length (nD bI)):
 Calls prog 257 #[.pointer (some ⟨P,0,none⟩),v,av] w λe w'=>∃A,e=.returned (.tuple #[.agg A,.int .i64 (fp s bs bI).2.2])/\A=ah 3 (aN (fp s bs bI).2.1)/\bt (fp s bs bI).2.1/\bH w' P D M0 (fp s bs bI).1/\Fr (some D) [] w w':=by
 obtain⟨bo,bcap,rfl,hbcap,-⟩:=aR R.1;obtain⟨aa,acap,rfl,hacap,-⟩:=aR RA;have HR:=ae R;have HRA:=ae RA;have S:=St.start w (some D) [] (bu P D M0 s) h;obtain⟨nd,HND⟩:=qI (mD (bs.length:Nat));have C1:=ae λW=>AY (bs.length:Nat) W;rw[HND.o] at C1;clear R RA h;go_enter func257,ntmps257;by_cases hbad:nd=0∨bI.length≠nd
 . have hst:fp s bs bI=(s,(hole,121)):=by unfold fp;rw[HND.o,bC hbad]
   have HST:=ae hst;clear hst;rcases Hy nd with h0 | h0;have g0: ((nd:Int)==0)=true:=by rw[Em];omega
   rotate_left
   have g0: ((nd:Int)==0)=false:=by rw[k'];omega
   have g1: (((bI.length:Nat):Int) !=((nd:Nat):Int))=true:=by rw[lh];omega
   all_goals
    clear hbad
    go_wp2_with (first|(go_at_call 256;refine je S (C1.o _) λW S=>?_)|(refine o7 ?_;rw[HST.o];exact⟨_,rfl,bz,bD,S.x,S.fr⟩)|refine fN ?_|refine ew λW S=>?_)
 . have g0: ((nd:Int)==0)=false:=by rw[k'];omega
   have g1: (((bI.length:Nat):Int) !=((nd:Nat):Int))=false:=by rw[DY];omega
   have hn1:1<=bs.length/\bs.length<=65535:=by
    have h9:mD (bs.length:Nat)≠0:=by rw[HND.o];omega
    unfold mD levels at h9
    grind
   obtain⟨s0,hs0⟩:=cM ((bs.length+127) / 128);have hsum:bI.length=(jF 10 s0).sum:=by
    have h9:=HND.o;unfold mD levels at h9
    grind
   have hp0:cw bs.length 128=s0:=by rw[<-hs0];rfl
   have hle0:s0<=bI.length:=by rw[hsum];exact yY 10 s0
   have hst:fp s bs bI=(let r:=oj 20 (dt s bs bI) (bI.drop (dt s bs bI).2.1.length);if r.2.2≠0 then(r.1,(hole,r.2.2)) else(r.1,(r.2.1.headD hole,0))):=by
    unfold fp;rw[HND.o,bX hbad]
   have C2:=ae λW h hr ha=>Li P D M0 s au bs hbl (.slice bo bs.length bcap) bI (.slice aa bI.length acap) (by rw[hp0];exact hle0) ham hat W h hr ha;have hops1:=Bd s bs bI;have hlen1:=Be (s:=s) (bs:=bs) (bI:=bI);have herr1:=Bf s bs bI;rw[hp0] at hops1 hlen1;rcases hg:dt s bs bI with⟨s1,lv1,c1⟩;rw[hg] at C2 hops1 hlen1 herr1 hst;simp only at C2 hops1 hlen1 herr1 hst;obtain⟨R0,HR0⟩:=qI (oj 20 (s1,(lv1,c1)) (bI.drop lv1.length));rw[HR0.o] at hst;have HST:=ae hst;have hlv1:lv1.length<=bI.length:=by
    grind
   have HINV:=ae (show Ln 20 (s1,(lv1,c1)) (bI.length - lv1.length) from by
    refine⟨by simp only;omega,λhc=>?_,λhc=>herr1 hc⟩
    grind)
   clear hst hsum hlen1 herr1 hops1 hp0 hle0 hbad hg
   go_wp2_with (first|(go_at_call 256;refine je S (C1.o _) λW S=>?_)|(go_at_call 279;refine(C2.o _ S.x (HR.o.fr S.fr (.inr rfl) rfl) (HRA.o.fr S.fr (.inr rfl) rfl)).mono ?_;rintro e W ⟨r,rfl,ho,hpl,hp,hf⟩;have HF:=ae (aH ho);have HPL:=ae hpl;have S1:=S.pO hf (λD e=>e) fh (bu P D M0 s1) (λB h=>hp) ho rfl rfl;clear S hpl;have S:=S1.NG (ar.aV (S1.bR (k:=0) rfl)) (λ_=>rfl) rfl rfl;clear S1;obtain⟨ma,mc,rfl⟩:=HF.o)|((with_reducible refine ej 33 81 30 ?_);refine qn Lm rfl rfl hlv1 ?_)|refine ew λW S=>?_)
   have HR1:Hid (ar w 3 1 (.slice (fD aa acap lv1.length 1) (bI.length - lv1.length) (acap - lv1.length)) (bI.length - lv1.length) (nD (bI.drop lv1.length))):=ae (by
    have h9:=ar.vN HRA.o hlv1;rw[wy] at h9;unfold nD at h9 ⊢
    simp_all)
   go_loopw [9,10,2] (λu e v wr=>∃f a at2 la lc aa2 ac2 n2,u=.slice la a.2.1.length lc/\e=.int .i64 a.2.2/\v=.slice aa2 n2 ac2/\Hid (oj f a at2=R0/\Ln f a n2/\at2.length=n2/\n2<=100000/\(∀x∈at2,x<=1000000)/\ar w 3 1 (.slice aa2 n2 ac2) n2 (nD at2)/\cx a.2.1/\
    St w (some D) [] [⟨w.heap.size,106,3,aN hole⟩] [] (λB w=>Ae P D M0 a.1 B w/\qC 106 3 (.slice la a.2.1.length lc) a.2.1.length (eo a.2.1) B w) wr)) (λu _ _ _=>abn u)
   case atStart=>exact⟨20,(s1,(lv1,c1)),bI.drop lv1.length,_,_,_,_,_,rfl,rfl,rfl,ae ⟨HR0.o,HINV.o,Ek,au,λx hx=>hat x (vF hx),HR1.o,HPL.o,S⟩⟩
   case round=>
    clear S;obtain⟨f,a,at2,la,lc,aa2,ac2,n2,rfl,rfl,rfl,hS⟩:=hrel;obtain⟨s2,lv,c⟩:=a;simp only at hS ⊢;by_cases hgo:c=0/\1<lv.length
    . obtain⟨rfl,hl1⟩:=hgo;have hinv:=hS.o.2.1;have hn2:=hS.o.2.2.1;obtain⟨g,hgf,hsm,hl0,hl5,hl8⟩:=hinv.ok rfl;simp only at hsm hl0 hl5 hl8;obtain⟨f,rfl⟩: ∃f',f=f'+1:=⟨f - 1,au⟩;obtain⟨g,rfl⟩: ∃g',g=g'+1:=⟨g - 1,by grind⟩;have hlev:jF (g+1) lv.length=lv.length::jF g ((lv.length+7) / 8):=by conv=>lhs;unfold jF;rw[bC hl1]
      rw[hlev,sum_cons] at hsm;have hh:=yY g ((lv.length+7) / 8);have hpn:cw lv.length 8=(lv.length+7) / 8:=rfl;have hops2:=hinv.ops;simp only at hops2;have C3:=ae λW h hr (ha:ar W 3 1 (.slice aa2 n2 ac2) n2 (nD at2))=>IS P D M0 s2 au lv au hS.o.2.2.2.2.2.2.1 (.slice la lv.length lc) at2 (.slice aa2 n2 ac2) (by rw[hpn,hn2];omega) (by rw[hn2];exact hS.o.2.2.2.1) hS.o.2.2.2.2.1 W h hr (by rw[hn2];exact ha);have hops1:=yV s2 lv at2;have hlen1:=yW (s:=s2) (ps:=lv) (bI:=at2);have herr1:=yX s2 lv at2;rw[hpn] at hops1 hlen1;have hres:=hS.o.1;unfold oj at hres;rw[bC ⟨rfl,hl1⟩] at hres;rcases hg:dk s2 lv at2 with⟨s3,lv3,c3⟩;simp only at hres;rw[hg] at C3 hops1 hlen1 herr1 hres;simp only at C3 hops1 hlen1 herr1 hres;have hlv3:lv3.length<=n2:=by
       grind
      have h83: (8:Nat) ^ (g+1)=8*8 ^ g:=by rw[Nat.pow_succ,Nat.mul_comm]
      have HINV3:=ae (show Ln f (s3,(lv3,c3)) (n2 - lv3.length) from by
       refine⟨by grind,λhc=>?_,λhc=>herr1 hc⟩
       grind)
      have hml:lv3.length<lv.length:=by
       grind
      have HRES:=ae hres;have HA2:=ae hS.o.2.2.2.2.1;have HL2:=ae hS.o.2.2.2.1;have HN2:=ae hn2;have HRA2:=ae hS.o.2.2.2.2.2.1;have S:=hS.o.2.2.2.2.2.2.2;have hgt: (1:Int)< (lv.length:Int):=au;clear hn2 hinv hS hsm hlev hh hpn hops2 hops1 hlen1 herr1 hres hg h83
      go_wp2_with (first
   |(go_at_call 280;refine(C3.o _ S.x.1 S.x.2.1 (HRA2.o.fr S.fr (.inr rfl) rfl)).mono ?_;rintro e W ⟨r,rfl,ho,hpl,hp,hf⟩;have HF:=ae (aH ho);have HPL3:=ae hpl;have S1:=S.pO hf (λD e=>e) fh (bu P D M0 s3) (λB h=>hp) ho rfl rfl;clear S hpl;have S:=S1.NG (ar.aV (S1.bR (k:=0) rfl)) (λ_=>rfl) rfl rfl;clear S1;obtain⟨ma3,mc3,rfl⟩:=HF.o)
   |((with_reducible refine ej 51 81 48 ?_);refine qn Lm rfl rfl hlv3 ?_))
      go_roundw
      case rel=>
       refine⟨f,(s3,(lv3,c3)),at2.drop lv3.length,ma3,mc3,fD aa2 ac2 lv3.length 1,ac2 - lv3.length,n2 - lv3.length,rfl,rfl,rfl,ae ⟨HRES.o,HINV3.o,by rw[Ek,HN2.o],by have:=HL2.o;omega,λx hx=>HA2.o x (vF hx),?_,HPL3.o,S⟩⟩;have h9:=ar.vN HRA2.o hlv3;rw[wy] at h9;unfold nD at h9 ⊢;rw[<-map_drop] at h9;exact h9
      case measure=>exact hml
    . have hfin:R0=(s2,(lv,c)):=by
       rw[<-hS.o.1];cases f with
       | zero=>rfl
       | succ f=>unfold oj;rw[bX hgo]
      have hres:=HST.o;rw[hfin] at hres;by_cases hc:c=0
      . subst hc;obtain⟨g,hgf,hsm,hl0,hl5,hl8⟩:=hS.o.2.1.ok rfl;simp only at hl0;have hl1:lv.length=1:=by
         omega
        obtain⟨q,rfl⟩:=List.length_eq_one_iff.1 hl1;rw[bX fh] at hres;simp only[headD_cons] at hres;have hpq:=hS.o.2.2.2.2.2.2.1 q (D0 ..);have S:=hS.o.2.2.2.2.2.2.2;obtain⟨A,hA⟩:=gq (ah 3 (aN q));have HA:=ae hA;have hsub:=ae (fF [q] (i:=0) fh (A:=A) hA);obtain⟨lb,lo,hla⟩: ∃b o,la=s_ b o:=by
         obtain⟨_,_,he,_,h2⟩:=aR S.x.2.1
         grind
        subst hla;have HRES:=ae hres;clear hS hres hfin hA hgo hsm hl0 hl5 hl8 hl1
        go_wp2_with (first
   |((with_reducible refine pP ?_);refine Md S.x.2.1 (j:=0) fh (DW HA) hsub.o ?_)
   |(refine o7 ?_;rw[HRES.o];exact⟨_,rfl,rfl,hpq,S.x.1,S.fr⟩)
   |refine ew λW S=>?_)
      . have g2: (c==0)=false:=by grind
        have g3: (c != 0)=true:=lh.2 hc;rw[bC hc] at hres;have HRES:=ae hres;have S:=hS.o.2.2.2.2.2.2.2;have HC:=ae hc;clear hS hres hfin hgo hc
        go_wp2_with (first|(refine o7 ?_;rw[HRES.o];exact⟨_,rfl,bz,bD,S.x.1,S.fr⟩)|refine fN ?_|refine ew λW S=>?_)
def knX (bs:aK) (W1:aD):aK->aD->Prop:=λB w=>(∀k∈bs,k∉B/\k<w.heap.size)/\∀k∈bs,w.heap[k]? =W1.heap[k]?
theorem gX.kn (bs:aK)(W1:aD)(h:gX none X):gX none (λB w=>X B w/\knX bs W1 B w):=
 ⟨λhx hb=>⟨h.below hx.1 hb,λk hk=>⟨(hx.2.1 k hk).1,uj (hx.2.1 k hk).2 hb.size⟩,λk hk=>(hb.block k (hx.2.1 k hk).2).trans (hx.2.2 k hk)⟩,
  λhx hb=>⟨h.add hx.1 hb,λk hk=>⟨λhm=>by
   rcases iI.1 hm with e | hm
   . have:=(hx.2.1 k hk).2;omega
   . exact(hx.2.1 k hk).1 hm,(hx.2.1 k hk).2⟩,hx.2.2⟩,
  λhx hm=>⟨h.mono hx.1 hm,λk hk=>⟨λhk'=>(hx.2.1 k hk).1 (hm k hk'),(hx.2.1 k hk).2⟩,hx.2.2⟩,
  λhx hB hb ht h1 h2=>⟨h.but hx.1 hB hb ht h1 h2,λk hk=>⟨(hx.2.1 k hk).1,uj (hx.2.1 k hk).2 hb.size⟩,λk hk=>(hb.block k (hx.2.1 k hk).2 (λe=>(hx.2.1 k hk).1 (e ▸ hB))).trans (hx.2.2 k hk)⟩,
  λ_ e=>by cases e⟩
theorem St.kn {l:aK}(S:St w0 none l [] [] X w)(bs:aK)(hb: ∀k∈bs,k<w.heap.size):St w0 none l [] [] (λB w'=>X B w'/\knX bs w B w') w:=
 ⟨S.fr,S.row,S.own,S.lo,S.nd,⟨S.x,λk hk=>⟨by simp[bE],hb k hk⟩,λ_ _=>rfl⟩,gX.kn bs w S.fs⟩
def rl:bh->aK
 | .slice (some a) (_+1) _=> [a.block]
 | _=> []
theorem Bj {a:Addr}{c:Nat}(h:0<n):rl (.slice (some a) n c)=[a.block]:=by
 obtain⟨n,rfl⟩: ∃m,n=m+1:=⟨n - 1,au⟩;rfl
theorem br.kn {k:IntKind}{l:List Int}(h:br k w v l)(hx:knX (rl v) w B w'):br k w' v l:=by
 obtain⟨ao,cap,rfl,h2,h3,h4⟩:=h;refine⟨ao,cap,rfl,h2,h3,λhl=>?_⟩;obtain⟨b,o,rfl,hb,hc⟩:=h4 hl;rw[Bj (Hx.2 hl)] at hx;have hm:b∈ [b]:=gz.2 rfl;exact⟨b,o,rfl,(hx.1 b hm).2,λj hj=>(z6 (hx.2 b hm)).trans (hc j hj)⟩
theorem QK {c:Nat}(h:0<n->∃b o,ao=some ⟨b,o,none⟩/\b<w.heap.size): ∀i∈rl (.slice ao n c),i<w.heap.size:=by
 intro i hi;rcases Hy n with rfl | hn
 . cases ao <;> cases hi
 . obtain⟨b,o,rfl,hb⟩:=h hn;rw[Bj hn] at hi
   grind
theorem br.XS {k:IntKind}{l:List Int}(h:br k w v l): ∀i∈rl v,i<w.heap.size:=by
 obtain⟨ao,cap,rfl,h2,h3,h4⟩:=h;exact QK λhl=>let⟨b,o,h5,h6,_⟩:=h4 (Hx.1 hl);⟨b,o,h5,h6⟩
theorem mR.XS {l:List fL}(h:mR w v l): ∀i∈rl v,i<w.heap.size:=by
 obtain⟨ao,cap,rfl,h2,h3,h4⟩:=h;exact QK λhl=>let⟨b,o,h5,h6,_⟩:=h4 (Hx.1 hl);⟨b,o,h5,h6⟩
theorem mR.kn {l:List fL}(h:mR w v l)(hx:knX (rl v) w B w'):mR w' v l:=by
 obtain⟨ao,cap,rfl,h2,h3,h4⟩:=h;refine⟨ao,cap,rfl,h2,h3,λhl=>?_⟩;obtain⟨b,o,rfl,hb,hc⟩:=h4 hl;rw[Bj (Hx.2 hl)] at hx;have hm:b∈ [b]:=gz.2 rfl;exact⟨b,o,rfl,(hx.1 b hm).2,λj hj=>⟨(z6 (hx.2 b hm)).trans (hc j hj).1,(z6 (hx.2 b hm)).trans (hc j hj).2.1,(z6 (hx.2 b hm)).trans (hc j hj).2.2⟩⟩
theorem bK.XS (h:bK w v l): ∀i∈rl v,i<w.heap.size:=by
 obtain⟨ao,cap,rfl,h2,h3,h4⟩:=h;exact QK λhl=>let⟨b,o,h5,h6,_⟩:=h4 (Hx.1 hl);⟨b,o,h5,h6⟩
theorem bK.kn (h:bK w v l)(hx:knX (rl v) w B w'):bK w' v l:=by
 obtain⟨ao,cap,rfl,h2,h3,h4⟩:=h;refine⟨ao,cap,rfl,h2,h3,λhl=>?_⟩;obtain⟨b,o,rfl,hb,hc⟩:=h4 hl;rw[Bj (Hx.2 hl)] at hx;have hm:b∈ [b]:=gz.2 rfl;exact⟨b,o,rfl,(hx.1 b hm).2,λj hj=>⟨(z6 (hx.2 b hm)).trans (hc j hj).1,(z6 (hx.2 b hm)).trans (hc j hj).2⟩⟩
section
variable {l:aK}
theorem YM (S:St w0 d l L O X w){q r:Operand}(hu:P.underlying ty=some (.slice 5))(hi: (P.info? 5).map (λi=>(i.zero,i.size,i.bytes))=some (some (.int .u8 0),1,1))(hq:a.eval q=.int .i64 n)(hr:a.eval r=.int .i64 n)(hn:n<=1000000)(h: ∀W,St w0 d l (⟨w.heap.size,5,n,aw []⟩::L) O X W->wpList P ops Q rest (a.put (some dst) (.slice (some ⟨w.heap.size,0,none⟩) n n)) W):
 wpList P ops Q (⟨some dst,.makeSlice ty q r,t2,p,af,none⟩::rest) a w:=by
 obtain⟨it,hi1,hz0,hz1,hz2⟩:=sC hi;have hrun:=run_make w ty 5 it (.int .u8 0) hu hi1 hz0 .i64 .i64 (n:Nat) (n:Nat) au au rE au;simp only[BQ,hz1,wy] at hrun;refine sD rfl λK hK=>?_;unfold Oper.wp execOp;simp only[py,hq,hr,hrun,rj];have hc:madeCells (Value.int .u8 0).cells n=ah n (aw []):=by
  apply ER
  simp_all[aF,madeCells,Array.getElem?_range,Value.cells,aw,mod_one]
 rw[hc];exact hK _ _ (h _ (S.alloc 5 rfl rfl))
theorem QL (S:St w0 d l L O X w)(k:Nat){s bs:aK}{dT sT:dD}{cap o':Nat}{o:Option Nat}(hk:L[k]? =some ⟨b,5,n,aw s⟩)(hsl:s.length=o')(R:br .u8 w v (aW bs))(hl:o'+bs.length<=n)(hm:bs.length<=m)(hu:P.underlying dT=some (.slice 5))(hsz: (P.info? 5).map (·.size)=some 1)(hd:a.eval (.tmp x)=.slice (some ⟨b,o',none⟩) m cap)(hs:a.eval (.tmp y)=v)(h: ∀W,St w0 d l (L.set k ⟨b,5,n,aw (s++bs)⟩) O X W->wpList P ops Q rest (a.put o (goInt bs.length)) W):
 wpList P ops Q (⟨o,.call {callee:=.builtin .copy,args:=#[.tmp x,.tmp y],argTypes:=#[dT,sT]},t2,p,af,none⟩::rest) a w:=by
 subst hsl;obtain⟨ao,c,rfl,h2,h3,h4⟩:=R;rw[aI] at h2 hs;by_cases h0:bs.length=0
 . obtain rfl:bs=[]:=Jp h0;refine wpList_copy_nothing rfl (.tmp x) (.tmp y) dT sT rfl 5 hu hsz _ ao m cap _ c hd hs (Nat.zero_min _) (h _ ?_);have:=S.modify hk (aw (s++[])) (ek.refl _ _) (by rw[ET];exact S.ee hk);exact this
 . obtain⟨b',o9,rfl,hb,hc⟩:=h4 (λe=>h0 (by have:=iS length e;grind[aI]));have hmin:Nat.min bs.length m=bs.length:=Jn hm;refine wpList_copy_own rfl (.tmp x) (.tmp y) dT sT rfl 5 hu hsz b s.length m cap ⟨b',o9,none⟩ _ c hd hs (ah n (aw s)) 5 (S.ee hk) (bs.map λ(x:Nat)=>Value.int .u8 (x:Int)) rE
    (λj u hj=>?_) (by grind[aj]) (λu hu=>by obtain⟨_,_,rfl⟩:=lY.1 hu;rfl) ?_
   . grind[Addr.add,aW]
   . rw[pr];have hw: ((ah n (aw s)).toList.take s.length++(bs.map λ(x:Nat)=>Value.int .u8 (x:Int))++(ah n (aw s)).toList.drop (s.length+ (bs.map λ(x:Nat)=>Value.int .u8 (x:Int)).length)).toArray=ah n (aw (s++bs)):=by
      have hL: (ah n (aw s)).toList.length=n:=by grind[aj]
      apply ER;intro j;rw[aF,Vd,Hh,Vf,Vf,pM,hL,pr,Jn au];by_cases h1:j<s.length
      . simp_all[aF,aw,Vc]
      . rw[bX h1];by_cases h2:j - s.length<bs.length
        . rw[bC h2,bC au,tY,j4 h2]
          grind[aw]
        . rw[bX h2,getElem?_drop,show s.length+bs.length+ (j - s.length - bs.length)=j by omega,qx (xs:=ah n _),aF]
          grind[aw]
     rw[pr,Hh] at hw;rw[hw];exact h _ (S.set hk _)
end
theorem QM {s:aK}(h:s.length<=n): (ah n (aw s)).toList=aQ (s++replicate (n - s.length) 0):=by
 apply EU;intro j;rw[qx,aF];unfold aQ aw
 grind
theorem N7 (h:ag w b e n f)(hb:base<=b)(hn:n<=maxLen):w.ownsRow base e 1 (.slice (some ⟨b,0,none⟩) n n) n (ah n f).toList:=by
 refine⟨by simp_all[aj],.inr ⟨b,n,ah n f,rfl,hb,h,eO _,hn,by simp_all[aj],?_⟩⟩
 simp_all[tX,aj]
theorem Gg (h: ¬(bs.length % 5=0/\bs.length<=20480)):vJ bs=none:=by
 unfold vJ;grind
theorem J8 (hk:k<bs.length / 5)(h:okB bs k=false):vJ bs=none:=by
 unfold vJ
 grind
theorem Uc (h1:bs.length % 5=0)(h2:bs.length<=20480)(hok: ∀j,j<bs.length / 5->okB bs j=true):vJ bs=some ((range (bs.length / 5)).map (vI bs)):=by
 simp_all[vJ]
theorem WY (bs:List Int)(k:Nat): (range (k+1)).map (vI bs)=(range k).map (vI bs)++[vI bs k]:=by
 grind[range_succ]
theorem YN (hwf: ∀x∈bs,(Lit.int .u8 x).wf=true)(hc: ∀j (h:j<bs.length),w.cell? ⟨b,o+j,none⟩=some (.int .u8 bs[j]))(hk:5*k+5<=bs.length):
 ∃x0 x1 x2 x3 x4:Nat,(x0<256/\x1<256/\x2<256/\x3<256/\x4<256)/\
  (w.cell? ⟨b,o+5*k,none⟩=some (.int .u8 x0)/\w.cell? ⟨b,o+5*k+1,none⟩=some (.int .u8 x1)/\w.cell? ⟨b,o+5*k+2,none⟩=some (.int .u8 x2)/\w.cell? ⟨b,o+5*k+3,none⟩=some (.int .u8 x3)/\w.cell? ⟨b,o+5*k+4,none⟩=some (.int .u8 x4))/\
  vI bs k=((x0:Int)==1,(x1:Int)+256* (x2:Int),(x3:Int)+256* (x4:Int))/\okB bs k=(decide (x0<=1)&&fj ((x1:Int)+256* (x2:Int)) ((x3:Int)+256* (x4:Int))):=by
 have hx: ∀j,j<5->∃x:Nat,x<256/\w.cell? ⟨b,o+5*k+j,none⟩=some (.int .u8 x)/\bs.getD (5*k+j) 0=(x:Int):=by
  intro j hj;have h1:=hc (5*k+j) au;have h2:=bounds_u8 (hwf _ (tW (show 5*k+j<bs.length by omega)));refine⟨(bs[5*k+j]'au).toNat,au,?_,?_⟩
  . grind
  grind
 obtain⟨x0,l0,c0,d0⟩:=hx 0 au;obtain⟨x1,l1,c1,d1⟩:=hx 1 au;obtain⟨x2,l2,c2,d2⟩:=hx 2 au;obtain⟨x3,l3,c3,d3⟩:=hx 3 au;obtain⟨x4,l4,c4,d4⟩:=hx 4 au;rw[CI] at c0 d0;have hd:vI bs k=((x0:Int)==1,(x1:Int)+256* (x2:Int),(x3:Int)+256* (x4:Int)):=by grind[vI]
 refine⟨x0,x1,x2,x3,x4,⟨l0,l1,l2,l3,l4⟩,⟨c0,c1,c2,c3,c4⟩,hd,?_⟩;unfold okB Ru
 grind
def lenOf:bh->Nat
 | .slice _ n _=>n
 | _=>0
theorem Ud (b o n c:Nat)(hn:5<=n)(hc:n<=c): ∃a,(5<n->a=some ⟨b,o+5,none⟩)/\∀W,(Instr.slice 22 (.slice (some ⟨b,o,none⟩) n c) (some (.int .i64 5)) none none).run prog W=.ok (.slice a (n - 5) (c - 5)) W:=by
 refine⟨if c=5 then some ⟨b,o,none⟩ else(some ⟨b,o,none⟩:Option Addr).map (·.add (5*1)),λh=>by rw[bX au];rfl,λW=>?_⟩;rw[run_slice_l W 22 _ n c UJ .i64 5 au au,aa5];rfl
theorem Ue (b o n c:Nat)(hn:5<=n)(hc:n<=c)(W:aD): (Instr.slice 22 (.slice (some ⟨b,o,none⟩) n c) none (some (.int .i64 5)) none).run prog W=.ok (.slice (some ⟨b,o,none⟩) 5 c) W:=by
 rw[run_slice_h W 22 _ n c UJ .i64 5 au au,aa5]
 simp_all[sliced,Addr.add]
theorem QN {x0 x1 x2 x3 x4:bh}(h:w.cell? ⟨b,o,none⟩=some x0/\w.cell? ⟨b,o+1,none⟩=some x1/\w.cell? ⟨b,o+2,none⟩=some x2/\w.cell? ⟨b,o+3,none⟩=some x3/\w.cell? ⟨b,o+4,none⟩=some x4)(hb:b<w.heap.size)(hbel:dp w w'):
 w'.cell? ⟨b,o,none⟩=some x0/\w'.cell? ⟨b,o+1,none⟩=some x1/\w'.cell? ⟨b,o+2,none⟩=some x2/\w'.cell? ⟨b,o+3,none⟩=some x3/\w'.cell? ⟨b,o+4,none⟩=some x4:=
 ⟨(hbel.cell (p:=⟨b,_,none⟩) hb).trans h.1,(hbel.cell (p:=⟨b,_,none⟩) hb).trans h.2.1,(hbel.cell (p:=⟨b,_,none⟩) hb).trans h.2.2.1,(hbel.cell (p:=⟨b,_,none⟩) hb).trans h.2.2.2.1,(hbel.cell (p:=⟨b,_,none⟩) hb).trans h.2.2.2.2⟩
def Gh (w:aD) (bs:List Int) (k:Nat) (a:Option Addr):Prop:=
 5*k<bs.length->∃b o,a=some ⟨b,o+5*k,none⟩/\b<w.heap.size/\∀j (h:j<bs.length),w.cell? ⟨b,o+j,none⟩=some (.int .u8 bs[j])
theorem N8 (hcc:bs≠ []->∃b o,ao=some ⟨b,o,none⟩/\b<w.heap.size/\∀j (h:j<bs.length),w.cell? ⟨b,o+j,none⟩=some (.int .u8 bs[j])):Gh w bs 0 ao:=by
 grind[Gh]
theorem N9 (hn:n+5*k=bs.length)(hb:b<w.heap.size)(hc: ∀j (h:j<bs.length),w.cell? ⟨b,o+j,none⟩=some (.int .u8 bs[j]))(ha:5<n->a'=some ⟨b,o+5*k+5,none⟩):Gh w bs (k+1) a':=by
 grind[Gh]
theorem WZ (u:bh)(bs:List Int)(w:aD)(hu:br .u8 w u bs)(hcap:qN u):
 Calls prog 203 #[u] w λe w'=>∃r,e=.returned (.tuple #[r,.int .i64 (Fp (vJ bs))])/\mR w' r ((vJ bs).getD [])/\dp w w':=by
 obtain⟨i0,hi,hz0,hz1',hz2⟩:=sC XQ;obtain⟨ao,cap,rfl,hulen,hwf,hcc⟩:=hu;have hcap:bs.length<=cap:=by
  obtain⟨a,n,c,h,hn⟩:=hcap
  grind
 have HU:=ae hcc;clear hcc;have HWF:=ae hwf;clear hwf;obtain⟨S,hS⟩:=gq (vJ bs);rw[<-hS];have HS:=ae hS;clear hS;have hB0:=iU w.heap.size w;by_cases hm:bs.length % 5=0
 case neg=>
  have HN:Hid (S=none):=by unfold Hid;rw[HS.o,Gg (λh=>hm h.1)]
  have hq: ((bs.length:Int) % 5 != 0)=true:=by rw[lh];omega
  clear hm;go_enter func203,ntmps203;go_wp2;refine kg (v:=.tuple #[.slice none 0 0,.int .i64 81]) (by simp[results,results203,go_sem]) rfl ⟨_,by rw[HN.o];rfl,by rw[HN.o];exact nM _,hB0⟩
 case pos=>
 have hq: ((bs.length:Int) % 5 != 0)=false:=by
  grind
 by_cases hlong: ¬bs.length<=20480
 . have HN:Hid (S=none):=by unfold Hid;rw[HS.o,Gg (λh=>hlong h.2)]
   have hl: (20480:Int)< (bs.length:Int):=au;clear hm;go_enter func203,ntmps203;go_wp2;refine kg (v:=.tuple #[.slice none 0 0,.int .i64 81]) (by simp[results,results203,go_sem]) rfl ⟨_,by rw[HN.o];rfl,by rw[HN.o];exact nM _,hB0⟩
 have hl4:bs.length<=20480:=au;have hl: ¬(20480:Int)< (bs.length:Int):=au;clear hlong;obtain⟨K,hK⟩:=gq (bs.length / 5);have HK:=ae hK;have hK5:5*K=bs.length:=au;have HK5:=ae hK5;clear hK5;have hKi: (bs.length:Int) / 5=(K:Int):=au;have hK4:K<=4096:=au;clear hK;have HM:=ae hm;clear hm;go_enter func203,ntmps203
 go_wp2_with (refine Vp (o:=⟨some 20,_,_,_,_,_⟩) _ rfl _ _ 294 rfl w.heap.size 334 i0 (.agg #[.bool false,.int .i64 0,.int .i64 0]) 3 underlying294 hi hz0 hz1' .i64 .i64 _ K rfl rfl (by first | rfl) (by rw[hz2];omega) (by unfold maxLen;omega) (eO _) ?_;intro w2 hown2 hgrow2)
 have hB2:dp w w2:=(iU _ _).grown hgrow2 (eO _) (λk e=>by cases e);clear hgrow2 hKi
 go_loopw [0,4] (λvb v wr=>∃(k n c:Nat) (a:Option Addr),k<=K/\vb=.slice a n c/\n+5*k=bs.length/\n<=c/\Gh w bs k a/\wr.ownsRow w.heap.size 334 3 v ((range k).map (vI bs)).length (eV ((range k).map (vI bs)))/\Hid (∀j,j<k->okB bs j=true)/\dp w wr)
  (λvb _ _=>lenOf vb)
 case atStart=>exact⟨0,bs.length,cap,ao,kf _,rfl,rfl,hcap,N8 HU.o,hown2,λj h=>absurd h (ES _),hB2⟩
 case round=>
  clear hown2 hB2;obtain⟨k,n,c,a,hk,rfl,hn,hnc,hla,hown,HOK,hbel⟩:=hrel;have HLA:=ae hla;clear hla;have hsz:=hbel.size;by_cases hlt:0<n
  . have hkK:k<K:=by have:=HK5.o;omega
    have hn5:5<=n:=by have:=HK5.o;omega
    obtain⟨b,o,rfl,hbs,hcell⟩:=HLA.o au;obtain⟨x0,x1,x2,x3,x4,⟨l0,l1,l2,l3,l4⟩,hc5,hd,hokb⟩:=YN HWF.o hcell (k:=k) au;obtain⟨a',ha',hrun⟩:=Ud b (o+5*k) n c hn5 hnc;have HLA':Hid (Gh w bs (k+1) a'):=N9 hn hbs hcell ha';have HN:=ae hn;clear hn;clear ha' hcell;have HRUN:=ae hrun;clear hrun;have HC5:=ae hc5;clear hc5;have HD:=ae hd;clear hd;have HOKB:=ae hokb;clear hokb;have htk:=Ue b (o+5*k) n c hn5 hnc;have hi5: (0:Int)<=5:=by decide
    have hi6: (5:Int)<=(c:Int):=au;have hc5':5<=c:=au;have hX:x0<256/\x1<256/\x2<256/\x3<256/\x4<256:=⟨l0,l1,l2,l3,l4⟩;have HX:=ae hX;clear hX
    go_wp2_with fail
    go_region_held3 (λ_=>True) (trivial)
     (first|(go_at_call 245;refine(Fh _).mono ?_;rintro e w5 ⟨b5,rfl,hv5,-,hb5⟩)|(go_at_call 29;refine(Yb _ _ _ _ x0 x1 x2 x3 x4 HX.o hc5' _ hv5 ?_ ?_).mono ?_;(exact QN HC5.o hbs (Below.step hbel.drew hbel.drew.size hb5));(exact uj hbs (Below.step hbel.drew hbel.drew.size hb5).size);rintro e w6 ⟨g,dcap,rfl,⟨e0,e1,e2⟩,hg,hgw,hb6⟩))
    have hB6:dp w w6:=Below.step (Below.step hbel.drew hbel.drew.size hb5) (Below.step hbel.drew hbel.drew.size hb5).size hb6;have how6:w6.ownsRow w.heap.size 334 3 u4 _ _:=fR (fR hown.drew hb5) hb6;clear hb5 hb6 hv5 hown hbel;by_cases hx0:1<x0
    . have HN2:Hid (S=none):=by unfold Hid;rw[HS.o];exact J8 (by rw[<-HK.o];exact hkK) (by rw[HOKB.o,iE au];rfl)
      have hx0': (1:Int)< (x0:Int):=au;clear HRUN;go_wp2;refine kg (v:=.tuple #[.slice none 0 0,.int .i64 81]) (by simp[results,results203,go_sem]) rfl ⟨_,by rw[HN2.o];rfl,by rw[HN2.o];exact nM _,hB6⟩
    have hx0': ¬(1:Int)< (x0:Int):=au;have hx1:decide (x0<=1)=true:=ly au;have HX1:=ae hx1;clear hx1;obtain⟨tb,htb⟩:=cM (((x0:Int)==1));obtain⟨s,hs⟩:=cM ((x1:Int)+256* (x2:Int));obtain⟨m,hm⟩:=cM ((x3:Int)+256* (x4:Int));have hsi:0<=s/\s<65536:=au;have hmi:0<=m/\m<65536:=au;have HD2:Hid (vI bs k=(tb,s,m)):=by simp_all
    have HO2:Hid (okB bs k=fj s m):=by simp_all
    rw[hs] at e1;rw[hm] at e2;clear hs hm;have hne0:=World.new_ne w6 ⟨g,0,none⟩ e0;have hws:IntKind.i64.wrap s=s:=mT _ au;have hwm:IntKind.i64.wrap m=m:=mT _ au
    go_wp2_with fail
    go_region_held3 (λW=>W.cell? ⟨g,0,none⟩=some (.int .u64 (x0:Int))/\W.cell? ⟨g,1,none⟩=some (.int .u64 s)/\W.cell? ⟨g,2,none⟩=some (.int .u64 m)) (go_keep) (fail)
    obtain⟨We,hWe⟩:=gq ((w6.alloc (.cells #[.bool tb,.int .i64 s,.int .i64 m] 334)).drew);have p0:We.cell? ⟨w6.heap.size,0,none⟩=some (.bool tb):=by simp_all
    have p1:We.cell? ⟨w6.heap.size,1,none⟩=some (.int .i64 s):=by simp_all
    have p2:We.cell? ⟨w6.heap.size,2,none⟩=some (.int .i64 m):=by simp_all
    have hse:We.heap.size=w6.heap.size+1:=by rw[hWe];simp
    have hBe:dp w We:=by rw[hWe];exact(hB6.alloc hB6.size _).drew
    have howe:=(how6.alloc (.cells #[.bool tb,.int .i64 s,.int .i64 m] 334)).drew;rw[<-hWe] at howe;rw[<-hWe];have hz6:=hB6.size;clear hWe hB6 how6 e0 e1 e2 hne0;obtain⟨E,hE⟩:=gq w6.heap.size;rw[<-hE] at p0 p1 p2 hse hz6 ⊢;clear hE;obtain⟨cc,hcc⟩:=cM (fj s m);have HC:=ae hcc;clear hcc
    go_wp2_with fail
    refine(wE tb s m (by unfold bT;omega) _).mono ?_;rw[HC.o];rintro e w7 ⟨rfl,hb7⟩;have hB7:=Below.step hBe hBe.size hb7;have how7:=fR howe hb7;have q0:=(hb7.cell (p:=⟨E,0,none⟩) (by show E<We.heap.size;omega)).trans p0;have q1:=(hb7.cell (p:=⟨E,1,none⟩) (by show E<We.heap.size;omega)).trans p1;have q2:=(hb7.cell (p:=⟨E,2,none⟩) (by show E<We.heap.size;omega)).trans p2;clear p0 p1 p2 hBe howe hb7 hse htb;cases cc with
    | false=>
     have HN2:Hid (S=none):=by unfold Hid;rw[HS.o];exact J8 (by rw[<-HK.o];exact hkK) (by rw[HO2.o,HC.o])
     clear HRUN;go_wp2;refine kg (v:=.tuple #[.slice none 0 0,.int .i64 81]) (by simp[results,results203,go_sem]) rfl ⟨_,by rw[HN2.o];rfl,by rw[HN2.o];exact nM _,hB7⟩
    | true=>
     have HOK2:Hid (∀j,j<k+1->okB bs j=true):=by
      intro j hj;by_cases hjk:j=k
      . subst hjk;rw[HO2.o];exact HC.o
      . exact HOK.o j au
     have HT:Hid ((range (k+1)).map (vI bs)=(range k).map (vI bs)++[(tb,s,m)]):=by unfold Hid;rw[WY,HD2.o]
     obtain⟨L,hL⟩:=gq ((range k).map (vI bs));rw[<-hL] at how7 HT;have hLl:L.length=k:=by rw[hL];simp
     clear hL;have hb1:L.length+1<=maxLen:=by unfold maxLen;omega
     have hb2: (L.length+1)*24<=140737488355328:=au;have HB1:=ae hb1;clear hb1;have HB2:=ae hb2;clear hb2;have HLL:=ae hLl;clear hLl;have hz7:=hB7.size;have hrun:=HRUN.o
     go_wp2_with (first |(at_builtin;refine Fc _ rfl (.tmp 58) (.tmp 60) 294 rfl w.heap.size 334 i0 (.agg #[.bool false,.int .i64 0,.int .i64 0]) 3 24 underlying294 hi hz0 hz1' hz2 rfl (by decide) _ _ _ rfl (how7.alloc _) ⟨w7.heap.size,0,none⟩ 1 1 [.bool tb,.int .i64 s,.int .i64 m] rfl rfl (wD rfl) (uU _ _ _) HB1.o HB2.o (kL hz7 fh) ?_;intro v8 w8 hown8 hgrow8 _))
     have hB8:=(hB7.alloc hz7 _).grown hgrow8 (hB7.alloc hz7 _).size (λj h=>(how7.lt j h).1);clear hgrow8 hrun;go_roundw
     case rel=>
      refine⟨k+1,n - 5,c - 5,a',au,rfl,by have:=HN.o;omega,au,HLA'.out,?_,HOK2.o,hB8⟩;rw[HT.o,kh,pD];exact hown8
     case measure=>simp[lenOf];omega
  . obtain rfl:n=0:=au;obtain rfl:k=K:=by have:=HK5.o;omega
    have HALL:Hid (S=some ((range k).map (vI bs))):=by unfold Hid;rw[HS.o,HK.o];exact Uc HM.o hl4 (λj hj=>HOK.o j (by rw[HK.o];exact hj))
    have hrng: ∀x∈(range k).map (vI bs),bT x.2.1/\bT x.2.2:=by
     intro x hx;obtain⟨j,hj,rfl⟩:=lY.1 hx;have h1:=HOK.o j (List.mem_range.1 hj);unfold okB Ru at h1;rw[Jh] at h1;have h2:=(cW _ _).1 h1.2;unfold bT;omega
    have hfin:=wC hown hrng (by simp;omega);have HFIN:=ae hfin;clear hfin hown hrng;go_wp2;refine kg (v:=.tuple #[u4,.int .i64 0]) (by simp[results,results203,go_sem]) rfl ⟨_,by rw[HALL.o];rfl,by rw[HALL.o];exact HFIN.o,hbel⟩
def vy (l:List Int):aK:=l.map Int.toNat
theorem Uf {x:fL}(h:Ru x=true): ∀y∈qB x,0<=y/\y<256:=by
 have h1:=(cW _ _).1 h;intro y hy;unfold qB at hy
 grind
theorem Ai (h:lI ms=some log): ∀y∈log,0<=y/\y<256:=by
 unfold lI at h;split at h
 . next hc=>
   cases h;intro y hy;obtain⟨x,hx,hxy⟩:=List.mem_flatMap.1 hy;exact Uf (Ak.1 hc.2 x hx) y hxy
 . cases h
theorem Lp (h:lI ms=some log):log.length=5*ms.length/\ms.length<=4096:=by
 grind[lI,uY]
theorem RY (h: ∀y∈log,0<=y/\y<256):aW (vy log)=log:=by
 unfold aW vy;rw[EV]
 conv=>rhs;rw[<-map_id log]
 grind[map_congr_left]
def Gi (l:List (Int×Int)):Int:=(l.headD (0,0)).1
def N' (l:List (Int×Int)):Int:=(l.getLastD (0,0)).1+ (l.getLastD (0,0)).2
def gJ (total:Int) (l:List (Int×Int)):Option aK:=
 if dP total=0∨cX l=false then none else
 if 0<l.length/\(Gi l<4∨total<N' l) then none else
 match lI (qM [] l) with
 | none=>none
 | some log=>if dP total<2+log.length then none else
  some (tw 2 (qM [] l).length++vy log++replicate (dP total - (2+log.length)) 0)
theorem RZ:fu prog 141 2:=⟨⟨_,underlying141,rfl⟩,cm⟩
instance in05bb3 :td 141 2:=⟨RZ⟩
def J9 (p:Int×Int):Nat->bh:=λi=>if i=0 then .int .i64 p.1 else .int .i64 p.2
theorem J' (p:Int×Int): ∀i,(J9 p i).oneCell'=true:=λi=>by unfold J9;split <;> rfl
instance in8301f (x:Int×Int):OF (J9 x):=⟨J' x⟩
theorem R3: (#[Value.int .i64 0,.int .i64 0]:iw)=ah 2 (J9 (0,0)):=rfl
instance in50e52 :ZR 141 2 (J9 (0,0)):=⟨_,zeroValue141,R3⟩
section
theorem Lq (hA:A.size=m)(hc: ∀i v,A[i]? =some v->w.cell? ⟨b,o+i,none⟩=some v)(hx:a.eval (.tmp x)=.pointer (some ⟨b,o,none⟩))(ht:fu P ty m)(h:wpList P ops Q rest (a.put (some dst) (.agg A)) w):wpList P ops Q (⟨some dst,.load ty (.tmp x),t2,p,af,none⟩::rest) a w:=by
 obtain⟨⟨dd,hu,hd⟩,hi⟩:=ht;have:=wpList_load_mid (op:=⟨some dst,.load ty (.tmp x),t2,p,af,none⟩) (ops:=ops) (rest:=rest) (Q:=Q) rfl ty (.tmp x) rfl b o hx A.toList dd (λi v hv=>hc i v rE) hu hd rE;rw[CK] at this;exact this h
end
theorem yh (t:Int):dP t=0∨100<=dP t:=by grind[dP]
theorem R5 (h:ag w b 5 n (aw ([]++tw 2 m++ls)))(hb:base<=b)(_:0<n)(hn:n<=2567)(hl:ls.length=k)(hk:2+k<=n):gI w base (.slice (some ⟨b,0,none⟩) n n) ((some (tw 2 m++ls++replicate (n - (2+k)) 0)).getD []):=by
 have h9:=N7 h hb (by grind[maxLen]);rw[QM (by grind[dV]),wv,kh,dV,hl] at h9;unfold gI;have e: (tw 2 m++ls++replicate (n - (2+k)) 0).length=n:=by grind[dV]
 rw[mb,e];exact h9
theorem abW (h:m<=4096):mX [2] [m]=some (tw 2 m):=by
 unfold mX;rw[bC ⟨by decide,rfl,by grind[fitAll]⟩];rfl
theorem yZ (total:Int)(htot:bT total)(v:bh)(l:List (Int×Int))(w:aD)(R:bK w v l):
 Calls prog 205 #[.int .i64 total,v] w λe w'=>∃r,e=.returned (.tuple #[r,.int .i64 (codeF 81 (gJ total l))])/\gI w' w.heap.size r ((gJ total l).getD [])/\dp w w':=by
 have HR:=ae R;obtain⟨rb,hrb⟩:=cM (cX l);have C1:=ae λW (hb:dp w W)=>nV rb v l hrb W (R.below hb);obtain⟨T,hT⟩:=cM (gJ total l);rw[hT];obtain⟨n,hn⟩:=cM (dP total);have hn5:=uQ total;rw[hn] at hn5;have S:=ug w;obtain⟨ao,cap,rfl,hlen,hbd,hcl⟩:=R;have HBD:=ae hbd;have HCL:=ae hcl;clear hbd hcl;go_enter func205,ntmps205;by_cases h0:n=0
 . obtain rfl:none=T:=by rw[<-hT];unfold gJ;rw[bC (.inl (hn.trans h0))]
   subst h0;clear hT
   go_wp2_with (go_at_call 202;refine(fX total _).mono ?_;rintro e W' ⟨rfl,rfl⟩;rw[hn])
   go_ret2;exact⟨_,rfl,ju _ _ _ _,S.b⟩
 have g0: ((n:Int)==0)=false:=by rw[k'];omega
 cases rb with
 | false=>
  obtain rfl:none=T:=by rw[<-hT];unfold gJ;rw[bC (.inr hrb)]
  clear hT
  go_wp2_with (first|(go_at_call 202;refine(fX total _).mono ?_;rintro e W' ⟨rfl,rfl⟩;rw[hn])|(go_at_call 247;refine je S (C1.o _ S.b) λW S=>?_))
  go_ret2;exact⟨_,rfl,ju _ _ _ _,S.b⟩
 | true=>
  obtain⟨bad,hbad⟩:=cM (decide (0<l.length/\(Gi l<4∨total<N' l)));have hres:T=if bad=true then none else(lI (qM [] l)).bind λlog=>if n<2+log.length then none else some (tw 2 (qM [] l).length++vy log++replicate (n - (2+log.length)) 0):=by
   rw[<-hT];unfold gJ;rw[hn,bX (by rw[hrb];simp;exact h0)];subst hbad;by_cases h9:0<l.length/\(Gi l<4∨total<N' l)
   . rw[bC h9,bC (ly h9)]
   . grind
  have HRES:=ae hres;clear hT hres;rcases Hy l.length with hl0 | hl0;have hbf:bad=false:=by rw[<-hbad];exact iE λh=>by omega
  subst hbf;clear hbad;have g1: ¬(0:Int)< (l.length:Int):=au;clear hl0
  go_upto_region 8 with(first|(go_at_call 202;refine(fX total _).mono ?_;rintro e W' ⟨rfl,rfl⟩;rw[hn])|(go_at_call 247;refine je S (C1.o _ S.b) λW S=>?_))
  rotate_left
  obtain⟨b,o,rfl,hbw,hcs⟩:=HCL.o (Hx.1 hl0);have HCS:=ae hcs;have g1: (0:Int)< (l.length:Int):=au;obtain⟨k,hk⟩: ∃k,l.length=k+1:=⟨l.length - 1,au⟩;have hkl:k<l.length:=au;obtain⟨p,hp⟩:=cM (l[k]);obtain⟨q,hq⟩:=cM (l[0]);have hfi:Gi l=q.1:=by
   unfold Gi;rw[headD_eq_head?_getD,head?_eq_getElem?,j4 hl0,hq];rfl
  have hla:N' l=p.1+p.2:=by
   unfold N'
   rw[getLastD_eq_getLast?,getLast?_eq_getElem?,show l.length - 1=k by omega,j4 hkl,hp];rfl
  have hs1:=(cW _ _).1 (Fa hrb hkl);rw[hp] at hs1;have hC1:Hid (∀W,dp w W->W.cell? ⟨b,o,none⟩=some (.int .i64 q.1)):=ae λW hb=>(hb.cell (p:=⟨b,o,none⟩) hbw).trans (by have:=(HCS.o 0 hl0).1;rw[hq] at this;simpa using this);have hC2:Hid (∀W,dp w W->∀i v,(ah 2 (J9 p))[i]? =some v->W.cell? ⟨b,o+k*2+i,none⟩=some v):=ae λW hb i v hv=>by
   rw[aF] at hv;split at hv
   . next hi=>
     refine(hb.cell (p:=⟨b,o+k*2+i,none⟩) hbw).trans ?_;rcases i with _ | _ | i
     . rw[<-El hv];have:=(HCS.o k hkl).1;rw[hp] at this;exact this
     . rw[<-El hv];have:=(HCS.o k hkl).2;rw[hp] at this;exact this
     . omega
   . cases hv
  obtain⟨A,HA⟩:=BU (ah 2 (J9 p));have g2: ((l.length:Int) - 1)=(k:Int):=au;have g3: (k:Int)< (l.length:Int):=au;rw[hfi,hla] at hbad;clear hp hq hfi hla hkl hk;by_cases h4:q.1<4
  . have hbt:bad=true:=by rw[<-hbad];exact ly ⟨hl0,.inl h4⟩
    subst hbt;obtain rfl:T=none:=by rw[HRES.o];rfl
    have g5:decide (q.1<4)=true:=ly h4;clear hbad hl0
    go_wp2_with (first
   |(with_reducible refine jo 34 3 33 (hC1.o _ S.b) ?_)
   |(go_at_call 202;refine(fX total _).mono ?_;rintro e W' ⟨rfl,rfl⟩;rw[hn])
   |(go_at_call 247;refine je S (C1.o _ S.b) λW S=>?_)
   |((with_reducible refine aG 30 141 29 ?_);refine Lq (DW HA) (by rw[HA.o];exact hC2.o _ S.b) rfl RZ ?_)
   |refine ew λW S=>?_)
    go_ret2;exact⟨_,rfl,ju _ _ _ _,S.b⟩
  by_cases h5:total<p.1+p.2
  . have hbt:bad=true:=by rw[<-hbad];exact ly ⟨hl0,.inr h5⟩
    subst hbt;obtain rfl:T=none:=by rw[HRES.o];rfl
    have g5:decide (q.1<4)=false:=iE h4;clear hbad hl0
    go_wp2_with (first
   |(with_reducible first|refine jo 34 3 33 (hC1.o _ S.b) ?_|refine jm 38 3 37 S 0 0 (.int .i64 p.1) ?_|refine jm 40 3 39 S 0 1 (.int .i64 p.2) ?_)
   |(go_at_call 202;refine(fX total _).mono ?_;rintro e W' ⟨rfl,rfl⟩;rw[hn])
   |(go_at_call 247;refine je S (C1.o _ S.b) λW S=>?_)
   |((with_reducible refine aG 30 141 29 ?_);refine Lq (DW HA) (by rw[HA.o];exact hC2.o _ S.b) rfl RZ ?_)
   |refine ew λW S=>?_)
    go_ret2;exact⟨_,rfl,ju _ _ _ _,S.b⟩
  have hbt:bad=false:=by rw[<-hbad];exact iE λh=>h.2.elim h4 h5
  subst hbt;have g5:decide (q.1<4)=false:=iE h4;clear hbad hl0
  go_upto_region 8 with(first|(with_reducible first|refine jo 34 3 33 (hC1.o _ S.b) ?_|refine jm 38 3 37 S 0 0 (.int .i64 p.1) ?_|refine jm 40 3 39 S 0 1 (.int .i64 p.2) ?_)|(go_at_call 202;refine(fX total _).mono ?_;rintro e W' ⟨rfl,rfl⟩;rw[hn])|(go_at_call 247;refine je S (C1.o _ S.b) λW S=>?_)|((with_reducible refine aG 30 141 29 ?_);refine Lq (DW HA) (by rw[HA.o];exact hC2.o _ S.b) rfl RZ ?_)|refine ew λW S=>?_)
  replace S:=S.pop
  all_goals
   have C2:=ae λW (hb:dp w W)=>Eu _ l W (HR.o.below hb);obtain⟨ms,hms⟩:=cM (qM [] l);rw[hms] at C2 HRES;obtain⟨lg,hlg⟩:=cM (lI ms);rw[hlg] at HRES;have C3:=ae λu W hu=>OY u ms W hu;rw[hlg] at C3;clear hms;rcases lg with _ | log
   . have e81:Fp (none:Option (List Int))=81:=rfl;rw[e81] at C3;obtain rfl:T=none:=by rw[HRES.o];rfl
     clear hlg e81
     go_wp2_with (first
   |(go_at_call 248;refine(C2.o _ S.b).mono ?_;rintro e W1 ⟨r,rfl,hm,hb⟩;have HM:=ae hm;have S1:=(S.below hb).kn (rl r) hm.XS;clear S hb hm;have S:=S1;clear S1;obtain⟨ra,rc,rfl⟩: ∃ra rc,r=.slice ra ms.length rc:=(by obtain⟨ra,rc,e,_⟩:=HM.o;exact⟨ra,rc,e⟩))
   |(go_at_call 249;refine(C3.o _ _ (HM.o.kn S.x.2)).mono ?_;rintro e W2 ⟨r2,rfl,-,-,hb⟩;replace S:=S.below hb;clear hb))
     go_ret2;exact⟨_,rfl,ju _ _ _ _,S.b⟩
   have e81:Fp (some log)=0:=rfl;rw[e81] at C3;simp only[mb] at C3;have hby:=Ai hlg;obtain⟨hl5,hl4⟩:=Lp hlg;have HNL:=ae (RY hby);have HLL:=ae (show(vy log).length=log.length from pr ..);have hlog:log.length<=20480:=au;clear hlg e81 hby hl5;by_cases h7:n<2+log.length
   . obtain rfl:T=none:=by rw[HRES.o];simp[h7]
     have g7: (n:Int)<2+ (log.length:Int):=au;clear h7
     go_wp2_with (first
   |(go_at_call 248;refine(C2.o _ S.b).mono ?_;rintro e W1 ⟨r,rfl,hm,hb⟩;have HM:=ae hm;have S1:=(S.below hb).kn (rl r) hm.XS;clear S hb hm;have S:=S1;clear S1;obtain⟨ra,rc,rfl⟩: ∃ra rc,r=.slice ra ms.length rc:=(by obtain⟨ra,rc,e,_⟩:=HM.o;exact⟨ra,rc,e⟩))
   |(go_at_call 249;refine(C3.o _ _ (HM.o.kn S.x.2)).mono ?_;rintro e W2 ⟨r2,rfl,hi,-,hb⟩;have HI:=ae hi;have S1:=(S.below hb).kn (rl r2) hi.XS;clear S hb hi;have S:=S1;clear S1;obtain⟨r2a,r2c,rfl⟩: ∃ra rc,r2=.slice ra log.length rc:=(by obtain⟨ra,rc,e,_⟩:=HI.o;exact⟨ra,rc,e⟩)))
     go_ret2;exact⟨_,rfl,ju _ _ _ _,S.b⟩
   have hTT:T=some (tw 2 ms.length++vy log++replicate (n - (2+log.length)) 0):=by rw[HRES.o];simp[h7]
   have g7: ¬(n:Int)<2+ (log.length:Int):=au;have C4:=ae λv u W hv hu=>wi v u [2] [ms.length] nh W hv hu;rw[abW hl4] at C4;have e21:codeF 21 (some (tw 2 ms.length))=0:=rfl;rw[e21] at C4;simp only[mb] at C4;have HW1:=ae (show ∀y∈aW [2],(Lit.int .i64 y).wf=true by decide);have HW2:=ae (show ∀y∈aW [ms.length],(Lit.int .u64 y).wf=true from λy hy=>by obtain rfl:=gz.1 hy;exact wf_u64 au);have hcv:IntKind.u64.wrap ((ms.length:Nat):Int)=((ms.length:Nat):Int):=by unfold IntKind.wrap;simp[IntKind.bits,IntKind.signed];omega
   have HTT:=ae hTT;have HN2:=ae (show 2+log.length<=n by omega);have h2n: (2:Nat)<=n:=au;have HDP:=ae (show ∀g,fD (s_ g 0) n 2 1=s_ g 2 from λg=>by unfold fD;rw[bX (by have:=yh total;omega)];rfl);clear hTT h7 e21
   go_wp2_with (first|(go_at_call 248;refine(C2.o _ S.b).mono ?_;rintro e W1 ⟨r,rfl,hm,hb⟩;have HM:=ae hm;have S1:=(S.below hb).kn (rl r) hm.XS;clear S hb hm;have S:=S1;clear S1;obtain⟨ra,rc,rfl⟩: ∃ra rc,r=.slice ra ms.length rc:=(by obtain⟨ra,rc,e,_⟩:=HM.o;exact⟨ra,rc,e⟩))|(go_at_call 249;refine(C3.o _ _ (HM.o.kn S.x.2)).mono ?_;rintro e W2 ⟨r2,rfl,hi,-,hb⟩;have HI:=ae hi;have S1:=(S.below hb).kn (rl r2) hi.XS;clear S hb hi;have S:=S1;clear S1;obtain⟨r2a,r2c,rfl⟩: ∃ra rc,r2=.slice ra log.length rc:=(by obtain⟨ra,rc,e,_⟩:=HI.o;exact⟨ra,rc,e⟩))|((with_reducible refine j6 62 81 1 ?_);refine eY S .i64 (aW [2]) um lH au au rfl rfl rfl λW S=>?_)|((with_reducible refine j6 66 78 1 ?_);refine eY S .u64 (aW [ms.length]) Fi oJ au au rfl rfl rfl λW S=>?_)|(go_at_call 73;refine(C4.o _ _ _ (br.row S.k1 rfl (show(1:Nat)<=_ by omega) HW1.o) (br.row S.k0 rfl (show(1:Nat)<=_ by omega) HW2.o)).mono ?_;rintro e W ⟨r,rfl,ho,hb⟩;have HF3:=ae (aH ho);replace S:=S.cU hb ho rfl rfl;clear hb;obtain⟨ca,cc,rfl⟩:=HF3.o)|((with_reducible refine qm 73 22 ?_);refine YM S oC Ir rfl rfl au λW S=>?_)|((with_reducible refine vd 74 75 ?_);refine QL S 0 rfl (s:=[]) rfl (ar.iC S.q0 (vW 2 ms.length)) (by rw[dV];omega) (by rw[dV];omega) oC ue rfl rfl λW S=>?_)|((with_reducible refine ej 78 22 77 ?_);refine qn nC rfl rfl h2n ?_;rw[HDP.o])|((with_reducible refine vd 78 79 ?_);refine QL S 0 rfl (s:=[]++tw 2 ms.length) (dV 2 ms.length) (by rw[HNL.o];exact HI.o.kn S.x.2) (by rw[HLL.o];have:=HN2.o;omega) (by rw[HLL.o];have:=HN2.o;omega) oC ue rfl rfl λW S=>?_))
   go_ret2;rw[HTT.o];exact⟨_,rfl,R5 S.k0 (S.lo _ (D0 ..)) (by have:=HN2.o;omega) hn5 HLL.o HN2.o,S.b⟩
theorem yv (w:aD)(t u ty e:dD)(i:TypeInfo)(z:bh)(ht:P.underlying t=some (.slice e))(hu:P.underlying u=some (.int .i64))(hi:P.info? e=some i)(hz:i.zero=some z)(n:Nat)(h0:0<n)(h63: (n:Int)<=9223372036854775807)(h48:n*i.bytes<=281474976710656)(hs:0<i.size):
 (Builtin.append_ #[t,u] ty #[.slice none 0 0,.int .i64 n]).run P w=
  .ok (.slice (some ⟨w.heap.size,0,none⟩) n (grownCap w n 0 e)) (w.drew.alloc (.cells (Builtin.zeroCells z.cells n++Builtin.zeroCells z.cells (grownCap w n 0 e - n)) e)):=by
 have hn:n≠0:=au;have h63': ¬(9223372036854775807< (n:Int)):=au;have h48': ¬(281474976710656<Builtin.nextslicecap n 0*i.bytes):=by grind[nextslicecap_zero]
 have hw:IntKind.i64.wrap ((n:Nat):Int)=(n:Int):=mT _ au;have h0': ¬((n:Int)<0):=au;have h48'': ¬((281474976710656:Int)< (n:Int)* (i.bytes:Int)):=au;have hs':i.size≠0:=au;simp[Builtin.append_,D7 ht,D7 hu,sizeOf,typeInfo,zeroValue,hi,hz,asInt,asIntOf,hw,h0',h48'',hn,hs',h63',h48',Question.forced,run_firstCells_none,newRow,grownCap]
 grind[Nat.mul_ne_zero]
section
variable {l:aK}
theorem aag (S:St w0 d l L O X w){t u:dD}(hx:a.eval (.tmp x)=.slice none 0 0)(hy:a.eval (.tmp y)=.int .i64 n)(ht:qj P t e z by')(hu:P.underlying u=some (.int .i64))(h0:0<n)(hb:n*by'<=281474976710656)(hn:n<=1000000)(h1:df e=false)(h2:fk e=false)(h: ∀g c W,n<=c->St w0 d l L (⟨e,z,.slice (some ⟨g,0,none⟩) 0 c,0,[]⟩::O) X W->wpList P ops Q rest (a.put (some dst) (.slice (some ⟨g,0,none⟩) n c)) W):
 wpList P ops Q (⟨some dst,.call {callee:=.builtin .append,args:=#[.tmp x,.tmp y],argTypes:=#[t,u]},t2,p,af,none⟩::rest) a w:=by
 obtain⟨hul,zv,hi,hz,hz0⟩:=ht;obtain⟨it,hi1,hzr,hz1,hz2⟩:=sC hi;have hrun:=yv (P:=P) w t u t2 e it zv hul hu hi1 hzr n h0 au rE au;have hge:=grownCap_ge w n 0 e;have hcm:=grownCap_le_maxLen w n 0 e (by grind[maxLen]);refine sD rfl λK hK=>?_;unfold Oper.wp;simp only[execOp,resolve,invoke,builtin,py,wB,rj,map_toArray,map_cons,map_nil,hx,hy,hrun];refine hK _ _ (h w.heap.size _ _ hge ?_);refine S.drew.cU ((iU _ _).alloc (eO _) _) ?_ h1 h2;exact World.ownsRow_made (w:=w.drew) _ _ (eO _) hcm (by rw[Array.size_append,size_zeroCells,size_zeroCells,hz,<-Nat.add_mul];grind)
end
theorem Oa (n:Nat)(hn:n<=1000000)(w:aD):Calls prog 206 #[.slice none 0 0,.int .i64 n] w λe w'=>∃v,e=.returned v/\w'.ownsRow w.heap.size 106 3 v 0 []/\dp w w':=by
 have S:=ug w;have g0: ¬((n:Int)<0):=au;rcases Hy n with h0 | h0
 . have hn0: (n:Int)=0:=au;subst h0;go_enter func206,ntmps206;go_wp2;go_ret;exact⟨_,rfl,ju _ _ _ _,S.b⟩
 . have g1: (0:Int)< (n:Int):=au;go_enter func206,ntmps206
   go_wp2_with ((with_reducible refine bN 22 20 21 ?_);refine aag S rfl rfl cN underlying3 h0 au hn rfl rfl λg c W hc S=>?_)
   go_ret;exact⟨_,rfl,S.o0,S.b⟩
theorem Bk (l:aK)(h:l[k]? =some x): (l.take (k+1)).sum=(l.take k).sum+x:=by
 grind[take_add_one]
theorem zT (l:aK)(k:Nat): (l.take k).sum<=l.sum:=by
 grind[take_append_drop]
theorem Gj (vs:List (bh×List aq))(v:bh)(hl:vs.length<=1000)(hs: (vs.map λx=>x.2.length).sum<=100000)(w:aD)(R:ar w 107 1 v vs.length (vs.map Prod.fst))(RP: ∀x∈vs,fM w x.1 x.2):
 Calls prog 153 #[v] w λe w'=>∃r,e=.returned r/\dh w' w.heap.size r (vs.flatMap Prod.snd)/\dp w w':=by
 obtain⟨ao,cap,rfl,hcap,hao⟩:=aR R;have HR:=ae R;have HRP:=ae RP;have hao:=ae hao;obtain⟨ns,HNS⟩:=qI ((vs.map λx=>x.2.length));rw[HNS.o] at hs;have S:=ug w;have hget: ∀k,k<vs.length->∃a l c,vs[k]? =some (.slice a l.length c,l)/\ns[k]? =some l.length:=λk hk=>by
  obtain⟨x,hx⟩: ∃x,vs[k]? =some x:=⟨_,j4 hk⟩;obtain⟨u,l⟩:=x;have hp:=RP _ (nf hx);obtain⟨a,c,e,_⟩:=aR hp;simp only at e;exact⟨a,l,c,by rw[hx,e],by rw[<-HNS.o,tY,hx];rfl⟩
 have HGET:=ae hget;clear R RP hget;go_enter func153,ntmps153
 go_upto_region 3 with(fail)
 go_loopw [3,11] (λs i wr=>∃k:Nat,k<=vs.length/\i=.int .i64 k/\s=.int .i64 (((ns.take k).sum:Nat):Int)/\Hid (St w none [] [] [] (λ_ _=>True) wr)) (λ_ i _=>vs.length - (intOf i).toNat)
 case atStart=>exact⟨0,au,rfl,by simp,ae S⟩
 case round=>
  clear S;obtain⟨k,hk,rfl,rfl,hS⟩:=hrel;by_cases hlt:k<vs.length
  . obtain⟨b,o,rfl⟩:=hao.o au;obtain⟨a,l,c,hv,hn⟩:=HGET.o k hlt;have hsu:=Bk ns hn;have hle:=zT ns (k+1);have S:=hS.o;have HV:=ae hv;have hkl: (k:Int)< (vs.length:Int):=au;obtain⟨sm,hsm⟩:=cM ((ns.take k).sum);rw[hsm] at hsu ⊢;have HSU:=ae hsu;have hb:sm+l.length<=100000:=au;clear hS hv hn hsu hle hsm
    go_wp2_with ((with_reducible refine aG 14 107 13 ?_);refine bM ((HR.o.below S.b).cellAt au (by rw[tY,HV.o];rfl)) rfl gx ?_)
    go_roundw
    case rel=>exact⟨k+1,au,by go_num,by rw[HSU.o];go_num,ae S⟩
    case measure=>exact uO
  . obtain rfl:k=vs.length:=au;have hle:=zT ns vs.length;obtain⟨sm,hsm⟩:=cM ((ns.take vs.length).sum);rw[hsm] at hle ⊢;have S:=hS.o;clear hS hsm;have C1:=ae λW=>Oa sm au W
    go_upto_region 12 with(go_at_call 206;refine(C1.o _).mono ?_;rintro e W ⟨r,rfl,ho,hb⟩;have HF:=ae (aH ho);replace S:=S.cU hb ho rfl rfl;clear hb;obtain⟨ga,gc,rfl⟩:=HF.o)
    go_loopw [6,27] (λu i wr=>∃(k:Nat) (M:List aq) (a:Option Addr) (c:Nat),k<=vs.length/\i=.int .i64 k/\u=.slice a M.length c/\Hid (M=(vs.take k).flatMap Prod.snd/\M.length=(ns.take k).sum/\St w none [] [] [⟨106,3,.slice a M.length c,M.length,eo M⟩] (λ_ _=>True) wr)) (λ_ i _=>vs.length - (intOf i).toNat)
    case atStart=>exact⟨0,[],ga,gc,au,rfl,rfl,ae ⟨rfl,rfl,S⟩⟩
    case round=>
     clear S;obtain⟨k,M,ma,mc,hk,rfl,rfl,hS⟩:=hrel;by_cases hlt:k<vs.length
     . obtain⟨b,o,rfl⟩:=hao.o au;obtain⟨a,l,c,hv,hn⟩:=HGET.o k hlt;have hsu:=Bk ns hn;have hle:=zT ns (k+1);have S:=hS.o.2.2;have HM:=ae hS.o.1;have hml:=hS.o.2.1;have HV:=ae hv;have hkl: (k:Int)< (vs.length:Int):=au;have HSU:=ae (show M.length+l.length=(ns.take (k+1)).sum by omega);have hb:M.length+l.length<=100000:=au;have HP:=ae (HRP.o _ (nf hv));clear hS hv hn hsu hle hml
       go_wp2_with (first
   |((with_reducible refine aG 30 107 29 ?_);refine bM ((HR.o.below S.b).cellAt au (by rw[tY,HV.o];rfl)) rfl gx ?_)
   |((with_reducible refine bN 33 31 32 ?_);refine zL S 0 rfl (by':=24) rfl rfl (HP.o.below S.b) cN (jY _) JW BM ?_;clear S;intro v' W S))
       have HF:Hid (∃va vc,v'=.slice va (M.length+l.length) vc):=ae (aH S.o0);go_roundw
       case rel=>
        obtain⟨va,vc,rfl⟩:=HF.o;refine⟨k+1,M++l,va,vc,au,by go_num,by rw[kh],ae ⟨by rw[HM.o,take_add_one,HV.o,Vg,flatMap_append];simp,by rw[kh,HSU.o],?_⟩⟩;rw[kh,dU];exact S
       case measure=>exact uO
     . obtain rfl:k=vs.length:=au;have hM:=hS.o.1;rw[wh] at hM;have HM:=ae hM;have S:=hS.o.2.2;clear hS hM;go_wp2;go_ret;exact⟨_,rfl,by rw[<-HM.o];exact S.o0,S.b⟩
def BP (p:aq) (n:Nat):Nat->bh:=λi=>if i<3 then aN p i else .int .i64 (n:Int)
theorem R6 (p:aq)(n:Nat): ∀i,(BP p n i).oneCell'=true:=λi=>by unfold BP;split;exact aE _ _;rfl
instance ine610d (p:aq) (n:Nat):OF (BP p n):=⟨R6 p n⟩
theorem Xa (q:aq)(m:Nat): ∀i,i<3->BP q m (0+i)=aN q i:=by simp_all[BP]
theorem U4: (#[.int .i64 0,.int .u64 0,.int .u32 0,.int .i64 0]:iw)=ah 4 (BP (0,0,0) 0):=rfl
instance in6bd30 :ZR 361 4 (BP (0,0,0) 0):=⟨_,zeroValue361,U4⟩
theorem Xb:fu prog 361 4:=⟨⟨_,underlying361,rfl⟩,cm⟩
instance in952b2 :td 361 4:=⟨Xb⟩
theorem Ob (p:aq)(n:Nat):prog.built 361 [(0,.agg (ah 3 (aN p))),(1,.int .i64 (n:Int))]=some (ah 4 (BP p n)):=cm
theorem YO: (prog.info? 361).map (λi=>(i.zero,i.size,i.bytes))=some (some (.agg #[.int .i64 0,.int .u64 0,.int .u32 0,.int .i64 0]),4,32):=cm
theorem YP:qj prog 362 361 4 32:=⟨underlying362,_,YO,rfl,au⟩
section
variable {l:aK}
theorem abp (S:St w0 d l L O X w){t:dD}{B:iw}{g:Nat->bh}(hx:a.eval (.tmp x)=.agg A)(hy:a.eval (.tmp y)=.agg B)(hA:A=ah n f)(hB:B=ah n g)(ht:qj P t e n by')(hn:n<=1000)(ho:df e=false)(h: ∀W,St w0 d l (⟨w.heap.size,e,2*n,λi=>if i<n then f i else g (i - n)⟩::L) O X W->wpList P ops Q rest (a.put (some dst) (.slice (some ⟨w.heap.size,0,none⟩) 2 2)) W):
 wpList P ops Q (⟨some dst,.buildSlice t 2 #[(0,.tmp x),(1,.tmp y)],t2,p,af,none⟩::rest) a w:=by
 obtain⟨hu,zv,hi,hz,h0⟩:=ht;obtain⟨it,hi1,hzr,hz1,hz2⟩:=sC hi;refine sD rfl λK hK=>wp_buildSlice t e 2 _ rfl (ah (2*n) λi=>if i<n then f i else g (i - n)) it zv hu hi1 hzr au au ?_ (hK _ _ (h _ (S.alloc e rfl ho)));rw[hz1];have e1: (Array.map (λ(p:Nat×Operand)=>(p.1,a.eval p.2)) #[(0,.tmp x),(1,.tmp y)]).toList=[(0,.agg A),(1,.agg B)]:=by simp[hx,hy]
 rw[show(Array.map (λx=>match x with |(i,x)=>(i,a.eval x)) #[(0,Operand.tmp x),(1,Operand.tmp y)]).toList=[(0,Value.agg A),(1,Value.agg B)] from e1];have h9:=Great.fill_whole h0 [Value.agg A,Value.agg B] ((Array.range (2*n)).map (zv.cells[· % zv.cells.size]!)) (by
  intro v hv;simp only[iI,kz,tZ] at hv;rcases hv with rfl | rfl
  . show A.size=n;rw[hA,aj]
  . show B.size=n;rw[hB,aj]) fh
 refine Eq.trans h9 (iS some ?_);apply ER;intro i;have ea: (Value.agg A).cells=A:=rfl;have eb: (Value.agg B).cells=B:=rfl;simp only[flatMap_cons,flatMap_nil,ET,ea,eb,Vd];rw[Vf,aF,p9,hA,hB,aj,qx,qx,aF,aF];by_cases h1:i<n
 . grind
 . grind
end
theorem acn (h:m<4294967296):mX [4] [m]=some (tw 4 m):=by
 unfold mX;rw[bC ⟨by decide,rfl,by grind[fitAll]⟩];simp[ez]
def mK (a:Option aK) (p:aq×Nat):Option aK:=a.bind λt=>if fP p.1=true then some (t++gZ p.1++tw 4 p.2) else none
def Cp (r1:aq) (n1:Nat) (r2:aq) (n2:Nat):Option aK:=mK (mK (some []) (r1,n1)) (r2,n2)
def R7 (r1:aq) (n1:Nat) (r2:aq) (n2:Nat) (k:Nat):aq×Nat:=if k=0 then(r1,n1) else(r2,n2)
def p6 (r1:aq) (n1:Nat) (r2:aq) (n2:Nat) (k:Nat):Option aK:=(range k).foldl (λa i=>mK a (R7 r1 n1 r2 n2 i)) (some [])
theorem Lr (hk:k<2)(h:p6 r1 n1 r2 n2 (k+1)=none):p6 r1 n1 r2 n2 2=none:=by
 rcases k with _ | _ | k
 . show mK (p6 r1 n1 r2 n2 (0+1)) _=none;rw[h];rfl
 . exact h
 . omega
theorem Oc (r1:aq)(h1:bt r1)(n1:Nat)(hn1:n1<4294967296)(r2:aq)(h2:bt r2)(n2:Nat)(hn2:n2<4294967296)(w:aD):
 Calls prog 258 #[iy r1,.int .i64 n1,iy r2,.int .i64 n2] w λe w'=>∃r,e=.returned (.tuple #[r,.int .i64 (codeF 51 (Cp r1 n1 r2 n2))])/\gI w' w.heap.size r ((Cp r1 n1 r2 n2).getD [])/\dp w w':=by
 obtain⟨A,hA⟩:=gq (ah 3 (aN r1));obtain⟨B,hB⟩:=gq (ah 3 (aN r2));rw[az hA,az hB];have HA:=ae hA;have HB:=ae hB;have hts:Cp r1 n1 r2 n2=p6 r1 n1 r2 n2 2:=rfl;rw[hts];obtain⟨pk,hpk⟩:=cM (R7 r1 n1 r2 n2);have HTO:=ae (show ∀k,p6 r1 n1 r2 n2 (k+1)=mK (p6 r1 n1 r2 n2 k) (pk k) from λk=>by rw[<-hpk];unfold p6;rw[range_succ,Km];rfl);have HPK:=ae (show ∀k,k<2->bt (pk k).1/\(pk k).2<4294967296 from λk hk=>by rw[<-hpk];unfold R7;split;exact⟨h1,hn1⟩;exact⟨h2,hn2⟩);obtain⟨fl,HFL⟩:=qI ((λi=>if i<4 then BP r1 n1 i else BP r2 n2 (i - 4)));have HF8:=ae (show ∀k i,k<2->i<4->fl (k*4+i)=BP (pk k).1 (pk k).2 i from λk i hk hi=>by
  rw[<-hpk,<-HFL.o];unfold R7;rcases k with _ | _ | k
  . simp only[EY,rC,bC hi,wz]
  . grind
  . omega)
 have S:=(ug w).yK 5 1 rfl rfl;clear hA hB hpk hts h1 h2 hn1 hn2;go_enter func258,ntmps258
 go_upto_region 3 with(first|((with_reducible refine aY 18 361 ?_);refine eW rfl (by rw[HA.o];exact Ob r1 n1) ?_)|((with_reducible refine aY 21 361 ?_);refine eW rfl (by rw[HB.o];exact Ob r2 n2) ?_)|((with_reducible refine j6 22 362 2 ?_);refine abp S rfl rfl rfl rfl YP au rfl λW S=>?_)|refine fN ?_|refine ew λW S=>?_)
 rw[HFL.o] at S;obtain⟨g0,hg0⟩:=cM W.heap.size
 go_loopw [10,24] (λv i wr=>∃(k:Nat) (M:aK) (a:Option Addr) (c:Nat),k<=2/\i=.int .i64 k/\v=.slice a M.length c/\Hid (p6 r1 n1 r2 n2 k=some M/\M.length=20*k/\St w none [] [⟨_,361,8,fl⟩,⟨_,106,3,aN r2⟩,⟨_,106,3,aN r1⟩] [⟨5,1,.slice a M.length c,M.length,aQ M⟩] (λ_ _=>True) wr)) (λ_ i _=>2 - (intOf i).toNat)
 case atStart=>exact⟨0,[],none,0,au,rfl,rfl,ae ⟨rfl,rfl,S⟩⟩
 case round=>
  clear S;obtain⟨k,M,ma,mc,hk,rfl,rfl,hS⟩:=hrel;by_cases hlt:k<2
  . have S:=hS.o.2.2;have HM:=ae hS.o.1;have hml:=hS.o.2.1;have hto:=HTO.o k;rw[HM.o] at hto;obtain⟨q,m,hqm⟩: ∃q m,pk k=(q,m):=⟨_,_,rfl⟩;rw[hqm] at hto;have hf8:=λi hi=>HF8.o k i hlt hi;simp only[hqm] at hf8;have hpk:=HPK.o k hlt;rw[hqm] at hpk;obtain⟨hq,hm⟩:=hpk;simp only at hq hm;have HF:=ae hf8;have HT:=ae hto;obtain⟨A0,hA0⟩:=gq (ah 3 (aN q));obtain⟨A4,HA4⟩:=BU (ah 4 (BP q m));have HA0:=ae hA0;have C1:=ae (qU q hq);rw[az hA0] at C1;have h4:k*4+4<=8:=au;have hk2: (k:Int)<2:=au;have HK:=ae hlt;have HML:=ae hml;have hcv:IntKind.u64.wrap ((m:Nat):Int)=((m:Nat):Int):=by unfold IntKind.wrap;simp[IntKind.bits,IntKind.signed];omega
    clear hS hto hf8 hqm hA0 hlt hk hml;have HG:=ae (Xa q m);cases hr:fP q with
    | false=>
     rw[hr] at C1;have HR:=ae hr;clear hr
     go_wp2_with (first
   |((with_reducible refine aG 27 361 26 ?_);refine nK S 0 rfl (o:=k*4) (m:=4) rfl (BP q m) h4 HF.o HA4.o Xb ?_)
   |((with_reducible refine pP ?_);refine oM_ S 0 rfl (o:=0) (m:=3) (aN q) HG.o HA0.o ?_)
   |(go_at_call 233;refine(C1.o _).mono ?_;rintro e W ⟨r,rfl,-,hb⟩;replace S:=S.below hb)
   |refine ew λW S=>?_)
     have e2:p6 r1 n1 r2 n2 2=none:=Lr HK.o (by rw[HT.o];simp[mK,HR.o]);rw[e2];go_ret2;exact⟨_,rfl,ju _ _ _ _,S.b⟩
    | true=>
     rw[hr] at C1;simp only[wz] at C1;have HR:=ae hr;clear hr;have C4:=ae λv u W hv hu=>wi v u [4] [m] nh W hv hu;rw[acn hm] at C4;have e21:codeF 21 (some (tw 4 m))=0:=rfl;rw[e21] at C4;simp only[mb] at C4;have HW1:=ae (show ∀y∈aW [4],(Lit.int .i64 y).wf=true by decide);have HW2:=ae (show ∀y∈aW [m],(Lit.int .u64 y).wf=true from λy hy=>by obtain rfl:=gz.1 hy;exact wf_u64 au);have hb9:M.length<=40:=by have:=HML.o;have:=HK.o;omega
     have HBL:=ae (ep q);have HLL:=ae (dV 4 m);clear e21
     go_wp2_with (first
   |(with_reducible refine jl 40 3 39 S 1 3 (.int .i64 m) ?_)
   |((with_reducible refine aG 27 361 26 ?_);refine nK S 0 rfl (o:=k*4) (m:=4) rfl (BP q m) h4 HF.o HA4.o Xb ?_)
   |((with_reducible refine pP ?_);refine oM_ S 0 rfl (o:=0) (m:=3) (aN q) HG.o HA0.o ?_)
   |(go_at_call 233;refine(C1.o _).mono ?_;rintro e W ⟨r,rfl,ho,hb⟩;have HF3:=ae (aH ho);replace S:=S.cU hb ho rfl rfl;obtain⟨ca,cc,rfl⟩:=HF3.o)
   |((with_reducible refine j6 38 81 1 ?_);refine eY S .i64 (aW [4]) um lH au au rfl rfl rfl λW S=>?_)
   |((with_reducible refine j6 42 78 1 ?_);refine eY S .u64 (aW [m]) Fi oJ au au rfl rfl rfl λW S=>?_)
   |(go_at_call 73;refine(C4.o _ _ _ (br.row S.k1 rfl (show(1:Nat)<=_ by omega) HW1.o) (br.row S.k0 rfl (show(1:Nat)<=_ by omega) HW2.o)).mono ?_;rintro e W ⟨r,rfl,ho,hb⟩;have HF4:=ae (aH ho);replace S:=S.cU hb ho rfl rfl;obtain⟨da,dc,rfl⟩:=HF4.o)
   |((with_reducible refine bN 51 49 50 ?_);refine zL S 2 rfl (by':=1) rfl rfl S.q1 mG (vV _) (by simp only;rw[HBL.o];omega) (by unfold maxLen;simp only;rw[HBL.o];omega) ?_;clear S;intro v' W S)
   |((with_reducible refine bN 53 51 52 ?_);refine zL S 2 rfl (by':=1) rfl rfl S.q0 mG (vV _) (by simp only;rw[HBL.o,HLL.o];omega) (by unfold maxLen;simp only;rw[HBL.o,HLL.o];omega) ?_;clear S;intro v' W S)
   |refine ew λW S=>?_)
     have HV:Hid (∃va vc,v'=.slice va (M.length+ (gZ q).length+ (tw 4 m).length) vc):=ae (aH S.o2);have HS:=ae S.pop.pop.pop.P9.P9;go_roundw
     case rel=>
      obtain⟨va,vc,rfl⟩:=HV.o;have e6:p6 r1 n1 r2 n2 (k+1)=some (M++gZ q++tw 4 m):=by rw[HT.o];unfold mK;simp[HR.o]
      refine⟨k+1,M++gZ q++tw 4 m,va,vc,by have:=HK.o;omega,by go_num,by rw[kh,kh],ae ⟨e6,by rw[kh,kh,HML.o,HBL.o,HLL.o];omega,?_⟩⟩;have e8:aQ (M++gZ q++tw 4 m)=aQ M++aQ (gZ q)++aQ (tw 4 m):=by rw[tO,tO]
      rw[e8,kh,kh];exact HS.o
     case measure=>have:=HK.o;simp[intOf];omega
  . obtain rfl:k=2:=au;have S:=hS.o.2.2;have HM:=ae hS.o.1;clear hS;go_wp2;go_ret2;rw[HM.o];exact⟨_,rfl,S.o0,S.b⟩
theorem R8: (prog.info? 107).map (λi=>(i.zero,i.size,i.bytes))=some (some (.slice none 0 0),1,24):=cm
theorem Lt (a:Pl×(List aq×List aq×Int))(want:Nat): (ec a want).2.2.1.length<=a.2.2.1.length+want:=by
 unfold ec;split
 . omega
 . split
   . grind
   . next h=>
     rcases hl:cT a.1 a.2.1 want with⟨s',M,c⟩;rw[hl] at h;obtain rfl:c=0:=by grind
     have:=yU hl
     grind
theorem y0: ∀(ws:aK) (a:Pl×(List aq×List aq×Int)),(ws.foldl ec a).2.2.1.length<=a.2.2.1.length+ws.sum
 | [],a=>by simp
 | x::ws,a=>by
  rw[Hz,sum_cons];have h1:=y0 ws (ec a x);have h2:=Lt a x;omega
theorem R' (m:Nat): ∀l:aK,(∀x∈l,x<=m)->l.sum<=l.length*m
 | [],_=>by simp
 | x::l,h=>by
  have h1:=R' m l λy hy=>h y (yz _ hy)
  grind[mem_cons_self,succ_mul]
theorem mL (s:Pl) (root:aq) (n:Int): (bQ s root n).2.2.1.length<=6000:=by
 unfold bQ;split
 . grind
 . simp only;split
   . grind
   . split
     . grind
     . have h1:=y0 (lr n) (s,([root],[root],0));have h2:=R' 512 (lr n) λx hx=>uF n x (by grind[lr,dropLast_sublist])
       grind[r7,lr]
def mw5 (b1:Pl×(aK×(List aq×Int))) (q p2:aq) (n2:Nat):Pl×(aq×(List aq×Int)):=
 if b1.2.2.2≠0 then(b1.1,(hole,([],b1.2.2.2))) else
 if(bQ b1.1 p2 (n2:Nat)).2.2.2≠0 then((bQ b1.1 p2 (n2:Nat)).1,(hole,([],(bQ b1.1 p2 (n2:Nat)).2.2.2)))
 else((bQ b1.1 p2 (n2:Nat)).1,(q,(([q]++b1.2.2.1)++(bQ b1.1 p2 (n2:Nat)).2.2.1,0)))
def mw4 (a:Pl×(aq×Int)) (p1:aq) (n1:Nat) (p2:aq) (n2:Nat):Pl×(aq×(List aq×Int)):=
 if a.2.2≠0 then(a.1,(hole,([],a.2.2))) else mw5 (bQ a.1 p1 (n1:Nat)) a.2.1 p2 n2
def mw3 (a:Pl×(aq×Int)) (p1:aq) (n1 n2 bI:Nat):Pl×(aq×(List aq×Int)):=
 if a.2.2≠0 then(a.1,(hole,([],a.2.2))) else
 match Cp p1 n1 a.2.1 n2 with
 | none=>(a.1,(hole,([],51)))
 | some t=>mw4 (dq a.1 (bI:Nat) t) p1 n1 a.2.1 n2
def mw2 (a:Pl×(aq×Int)) (n1:Nat) (bI:aK):Pl×(aq×(List aq×Int)):=
 if a.2.2≠0 then(a.1,(hole,([],a.2.2))) else
 match gJ (a.1.dv.n:Nat) (uP a.1.mp 2) with
 | none=>(a.1,(hole,([],81)))
 | some sp=>mw3 (fp a.1 sp ((bI.take (bI.length - 1)).drop (mD (n1:Nat)))) a.2.1 n1 sp.length (bI.getD (bI.length - 1) 0)
def j3 (s:Pl) (text bI:aK):Pl×(aq×(List aq×Int)):=mw2 (fp s text (bI.take (mD (text.length:Nat)))) text.length bI
theorem bH.mZ {P D M:Nat}(h:bH w P D M s):s.dv.n<=1024:=by
 obtain⟨_,sb,nb,pv,h1⟩:=h.dev;exact h1.mZ
theorem Bm {t:Int}(h:gJ t l=some sp): ∀x∈sp,x<256:=by
 unfold gJ at h;split at h
 . cases h
 . split at h
   . cases h
   . split at h
     . cases h
     . next log hlog=>
       split at h
       . cases h
       . cases h;intro x hx;rcases jn.1 hx with hx | hx
         . rcases jn.1 hx with hx | hx
           . exact vW _ _ x hx
           . unfold vy at hx;obtain⟨y,hy,rfl⟩:=lY.1 hx;have:=Ai hlog y hy;omega
         grind
theorem IT {t:Int}(h:gJ t l=some sp):sp.length<=2567:=by
 grind[uQ,gJ,dV,vy]
theorem Bo {a:Option aK}{p:aq×Nat}(h:mK a p=some t)(ha: ∀u,a=some u->∀x∈u,x<256): ∀x∈t,x<256:=by
 unfold mK at h;cases a with
 | none=>cases h
 | some u=>
  rw[EX] at h;split at h
  . cases h;intro x hx;rcases jn.1 hx with hx | hx
    . rcases jn.1 hx with hx | hx
      . grind
      grind[o5]
    grind[vW]
  . cases h
theorem Ug (h:Cp p1 n1 p2 n2=some t): ∀x∈t,x<256:=
 Bo h λ_ hu=>Bo hu λu hu x hx=>by grind
section
theorem Xc {t:dD} {z:Nat} (h:zM P t z) (ao:Option Addr) (n c y k:Nat) (hy:y<=k) (hk:k<=c) (W:aD): (Instr.sliceAt t (.slice ao n c) (some (.int .i64 y)) (some (.int .i64 k)) none).run P W=.ok (.slice (fD ao c y z) (k - y) (c - y)) W:=by
 rw[rU h,run_slice_lh W t ao n c h.1 .i64 .i64 (y:Nat) (k:Nat) au au au,h.2];rfl
theorem Gk {c:Nat}{lo hi:Operand}(hs:zM P ty z)(hx:a.eval (.tmp x)=.slice ao n c)(hh:a.eval lo=.int .i64 y)(hh2:a.eval hi=.int .i64 k)(hy:y<=k)(hk:k<=c)(h:wpList P ops Q rest (a.put (some dst) (.slice (fD ao c y z) (k - y) (c - y))) w):
 wpList P ops Q (⟨some dst,.slice ty (.tmp x) (some lo) (some hi) none,t2,p,af,none⟩::rest) a w:=
 iV rfl ty (.tmp x) (some lo) (some hi) none rfl _ (by grind[Xc]) h
end
theorem Uh (h:ag w g 106 3 (aN q)):fM w (.slice (some ⟨g,0,none⟩) 1 1) [q]:=by
 unfold fM;refine yg h (rO [q]) (eO _) (by grind[maxLen]) λj u hu=>?_;have hj:j<3:=by
  grind[rO]
 refine⟨hj,?_⟩;have h9:=fF [q] (i:=0) fh (A:=ah 3 (aN q)) rfl j hj
 simp_all[aF]
theorem IU (P D M0:Nat)(s:Pl)(hops:s.dv.ops<=990000000)(bs:aK)(hbl:bs.length<=100000)(v:bh)(bI:aK)(av:bh)(hneed:mD (bs.length:Nat)+1<=bI.length)(ham:bI.length<=100000)(hat: ∀x∈bI,x<=1000000)(w:aD)(h:bH w P D M0 s)(R:eX w 5 v bs)(RA:ar w 3 1 av bI.length (nD bI)):
 Calls prog 224 #[.pointer (some ⟨P,0,none⟩),v,av] w λe w'=>∃A r,e=.returned (.tuple #[.agg A,r,.int .i64 (j3 s bs bI).2.2.2])/\A=ah 3 (aN (j3 s bs bI).2.1)/\bt (j3 s bs bI).2.1/\dh w' w.heap.size r (j3 s bs bI).2.2.1/\cx (j3 s bs bI).2.2.1/\bH w' P D M0 (j3 s bs bI).1/\Fr (some D) [] w w':=by
 obtain⟨bo,bcap,rfl,hbcap,-⟩:=aR R.1;obtain⟨aa,acap,rfl,hacap,haa⟩:=aR RA;obtain⟨ab,ao,rfl⟩:=haa au;have HR:=ae R;have HRA:=ae RA;have S:=St.start w (some D) [] (bu P D M0 s) h;obtain⟨MW,hMW⟩:=cM (j3 s bs bI);rw[hMW];unfold j3 at hMW;obtain⟨nd,HND⟩:=qI (mD (bs.length:Nat));have C1:=ae λW=>AY (bs.length:Nat) W;rw[HND.o] at C1 hneed hMW;obtain⟨la,hla⟩: ∃la,bI.length=la+1:=⟨bI.length - 1,au⟩;have hl1:bI.length - 1=la:=au;have g1: ((bI.length:Nat):Int) - 1=((la:Nat):Int):=au;have hndl:nd<=la:=au;have hlc:la<=acap:=au;have hndc:nd<=acap:=au;have HT1:=ae (show ar w 3 1 (.slice (s_ ab ao) nd acap) (bI.take nd).length (nD (bI.take nd)) from by
  have h9:=ar.take RA (i:=nd) au;rw[wy] at h9;unfold nD at h9 ⊢;rw[<-map_take] at h9;rw[pM,Jn au];exact h9)
 obtain⟨da,HDA⟩:=qI (fD (s_ ab ao) acap nd 1);have HT2:=ae (show ar w 3 1 (.slice da (la - nd) (acap - nd)) ((bI.take la).drop nd).length (nD ((bI.take la).drop nd)) from by
  have h9:=ar.take RA (i:=la) au;have h8:=ar.vN h9 (i:=nd) hndl;rw[wy,wy,HDA.o] at h8;unfold nD at h8 ⊢;rw[<-map_take,<-map_drop] at h8;rw[Ek,pM,Jn au];exact h8)
 obtain⟨qa,hqa⟩:=cM (bI.getD la 0);have hqv: (nD bI)[la]? =some (.int .i64 qa):=by
  unfold nD
  grind
 have hq6:qa<=1000000:=by
  rw[<-hqa,DZ,j4 au];exact hat _ (tW _)
 have HQ:=ae λW (f:Fr (some D) [] w W)=>(RA.fr f (.inr rfl) rfl).cellAt au hqv;have hlb:la<=100000:=au;have hlin:la<bI.length:=au;have hlii: (la:Int)< (bI.length:Int):=au;obtain⟨t1,ht1⟩:=cM (bI.take nd);obtain⟨t2,ht2⟩:=cM ((bI.take la).drop nd);have hm1: ∀x∈t1,x<=1000000:=by grind
 have hm2: ∀x∈t2,x<=1000000:=by grind
 have hz1:t1.length<=100000:=by grind
 have hz2:t2.length<=100000:=by grind
 rw[ht1] at HT1 hMW;rw[ht2] at HT2;have hmw2:MW=mw2 (fp s bs t1) bs.length bI:=hMW.symm;have HMU:=ae (show ∀a,mw2 a bs.length bI=if a.2.2≠0 then(a.1,(hole,([],a.2.2))) else
  match gJ (a.1.dv.n:Nat) (uP a.1.mp 2) with
  | none=>(a.1,(hole,([],81)))
  | some sp=>mw3 (fp a.1 sp t2) a.2.1 bs.length sp.length qa from λa=>by unfold mw2;rw[hl1,HND.o,ht2,hqa])
 have C2:=ae λW h hr ha=>Bh P D M0 s au bs hbl (.slice bo bs.length bcap) t1 (.slice (s_ ab ao) nd acap) hz1 hm1 W h hr ha;have hops1:=qZ s bs t1;obtain⟨s1,hs1⟩:=cM ((fp s bs t1).1);obtain⟨p1,hp1⟩:=cM ((fp s bs t1).2.1);obtain⟨c1,hc1⟩:=cM ((fp s bs t1).2.2);rw[HMU.o,hc1,hs1,hp1] at hmw2;rw[hc1,hs1,hp1] at C2;rw[hs1] at hops1;have HMW:=ae hmw2;have HM1:=ae hm1;have HM2:=ae hm2;clear hmw2 hMW R RA h hs1 hp1 hc1 hl1 hla hqv hqa ht1 ht2 hat hm1 hm2 hneed ham hz1 hbcap hacap haa;go_enter func224,ntmps224
 go_upto_region 3 with(first|(go_at_call 256;refine je S (C1.o _) λW S=>?_)|((with_reducible refine ej 32 81 30 ?_);refine Nr Lm rfl rfl (y:=nd) hndc ?_)|(go_at_call 257;refine(C2.o _ S.x (HR.o.fr S.fr (.inr rfl) rfl) (HT1.o.fr S.fr (.inr rfl) rfl)).mono ?_;rintro e W ⟨A,rfl,ho,hpl,hp,hf⟩;have HA1:=ae ho;have HP1:=ae hpl;replace S:=S.call hf (λD e=>e) fh (bu P D M0 s1) (λB h=>hp);clear ho hpl)|refine ew λW S=>?_)
 by_cases g2:c1=0
 case neg=>
  have g3: (c1 != 0)=true:=lh.2 g2;rw[bC g2] at HMW;have HG:=ae g2;clear g2
  go_wp2_with (first|(refine o7 ?_;rw[HMW.o];exact⟨_,_,rfl,bz,bD,dh.nil _ _,bm,S.x,S.fr⟩)|refine fN ?_|refine ew λW S=>?_)
 subst g2;rw[bX (show ¬((0:Int)≠0) from λh=>h rfl)] at HMW;have HFW:=ae S.x.mZ;obtain⟨sp,HPA⟩:=qI (gJ (s1.dv.n:Nat) (uP s1.mp 2));have C3:=ae λr W hr=>yZ (s1.dv.n:Nat) (by have:=HFW.o;unfold bT;omega) r (uP s1.mp 2) W hr;rw[HPA.o] at C3 HMW;cases sp with
 | none=>
  have e81:codeF 81 (none:Option aK)=81:=rfl;rw[e81] at C3
  go_upto_region 6 with(first|(go_at_call 106;refine(iJ P D M0 _ _ _ S.x.row).mono ?_;rintro e W ⟨rfl,rfl⟩)|(go_at_call 84;refine(uw D _ _ S.x.dev).mono ?_;rintro e W ⟨rfl,rfl⟩)|(go_at_call 25;refine(jJ P D M0 _ _ _ S.x.row).mono ?_;rintro e W ⟨rfl,rfl⟩)|(go_at_call 26;refine(Cd M0 _ _ S.x.map).mono ?_;rintro e W ⟨r,rfl,ho,hb⟩;have HO:=ae (FD ho);replace S:=S.below hb;clear ho)|(go_at_call 205;refine(C3.o _ _ HO.o).mono ?_;rintro e W ⟨r,rfl,ho,hb⟩;replace S:=S.below hb;clear ho))
  go_wp2_with (first|(refine o7 ?_;rw[HMW.o];exact⟨_,_,rfl,bz,bD,dh.nil _ _,bm,S.x,S.fr⟩)|refine fN ?_|refine ew λW S=>?_)
 | some sp=>
  have e81:codeF 81 (some sp)=0:=rfl;rw[e81] at C3;simp only[mb] at C3 HMW;have hsl:=IT HPA.o;have HSL:=ae (Bm HPA.o);have C4:=ae λv W h hr ha=>Bh P D M0 s1 au sp au v t2 (.slice da (la - nd) (acap - nd)) hz2 HM2.o W h hr ha;have hops2:=qZ s1 sp t2;obtain⟨s2,hs2⟩:=cM ((fp s1 sp t2).1);obtain⟨p2,hp2⟩:=cM ((fp s1 sp t2).2.1);obtain⟨c2,hc2⟩:=cM ((fp s1 sp t2).2.2);unfold mw3 at HMW;rw[hc2,hs2,hp2] at C4 HMW;rw[hs2] at hops2;clear e81 hs2 hp2 hc2
  go_upto_region 9 with(first|(go_at_call 106;refine(iJ P D M0 _ _ _ S.x.row).mono ?_;rintro e W ⟨rfl,rfl⟩)|(go_at_call 84;refine(uw D _ _ S.x.dev).mono ?_;rintro e W ⟨rfl,rfl⟩)|(go_at_call 25;refine(jJ P D M0 _ _ _ S.x.row).mono ?_;rintro e W ⟨rfl,rfl⟩)|(go_at_call 26;refine(Cd M0 _ _ S.x.map).mono ?_;rintro e W ⟨r,rfl,ho,hb⟩;have HO:=ae (FD ho);replace S:=S.below hb;clear ho)|(go_at_call 205;refine(C3.o _ _ HO.o).mono ?_;rintro e W ⟨r,rfl,ho,hb⟩;have HF3:=ae (aH ho);replace S:=S.cU hb ho rfl rfl;clear ho;obtain⟨ca,cc,rfl⟩:=HF3.o)|((with_reducible refine ej 60 81 57 ?_);refine Gk Lm rfl rfl rfl (y:=nd) (k:=la) hndl hlc ?_;rw[HDA.o])|(go_at_call 257;refine(C4.o _ _ S.x ⟨S.q0,HSL.o⟩ (HT2.o.fr S.fr (.inr rfl) rfl)).mono ?_;rintro e W ⟨A2,rfl,ho,hpl,hp,hf⟩;have HA2:=ae ho;have HP2:=ae hpl;replace S:=S.call hf (λD e=>e) fh (bu P D M0 s2) (λB h=>hp);clear ho hpl)|refine ew λW S=>?_)
  by_cases g2:c2=0
  case neg=>
   have g3: (c2 != 0)=true:=lh.2 g2;rw[bC g2] at HMW;have HG:=ae g2;clear g2
   go_wp2_with (first|(refine o7 ?_;rw[HMW.o];exact⟨_,_,rfl,bz,bD,dh.nil _ _,bm,S.x,S.fr⟩)|refine fN ?_|refine ew λW S=>?_)
  subst g2;rw[bX (show ¬((0:Int)≠0) from λh=>h rfl)] at HMW;obtain⟨tb,HTB⟩:=qI (Cp p1 bs.length p2 sp.length);have C5:=ae (Oc p1 HP1.o bs.length au p2 HP2.o sp.length au);rw[az HA1.o,az HA2.o,HTB.o] at C5;simp only[HTB.o] at HMW;cases tb with
  | none=>
   have e81:codeF 51 (none:Option aK)=51:=rfl;rw[e81] at C5
   go_upto_region 12 with(first|(go_at_call 258;refine(C5.o _).mono ?_;rintro e W ⟨r,rfl,ho,hb⟩;replace S:=S.below hb;clear ho)|refine fN ?_)
   go_wp2_with (first|(refine o7 ?_;rw[HMW.o];exact⟨_,_,rfl,bz,bD,dh.nil _ _,bm,S.x,S.fr⟩)|refine fN ?_|refine ew λW S=>?_)
  | some tb=>
   have e81:codeF 51 (some tb)=0:=rfl;rw[e81] at C5;simp only[mb] at C5 HMW;have htl:=Ug HTB.o;have HTL:=ae htl;have hst2:ll s2.ay:=S.x.ok.1;have hops3:=oh s2 (qa:Nat) tb;have HQP:=tP hst2 (qa:Nat) tb htl;have C6:=ae λv W h hv=>tN P D M0 s2 au (qa:Nat) (by unfold bT;omega) 5 v tb W h hv;obtain⟨s3,hs3⟩:=cM ((dq s2 (qa:Nat) tb).1);obtain⟨q,hq⟩:=cM ((dq s2 (qa:Nat) tb).2.1);obtain⟨c3,hc3⟩:=cM ((dq s2 (qa:Nat) tb).2.2);obtain⟨A3,hA3⟩:=gq (ah 3 (aN q));unfold mw4 at HMW;rw[hc3,hs3,hq] at C6 HMW;rw[az hA3] at C6;rw[hs3] at hops3;rw[hq] at HQP;have HQP:=ae HQP;have HA3:=ae hA3;clear e81 hs3 hq hc3 hA3 htl hst2
   go_upto_region 15 with(first|(with_reducible first|refine jo 87 3 86 (HQ.o _ S.fr) ?_)|(go_at_call 258;refine(C5.o _).mono ?_;rintro e W ⟨r,rfl,ho,hb⟩;have HF3:=ae (aH ho);replace S:=S.cU hb ho rfl rfl;clear ho;obtain⟨ga,gc,rfl⟩:=HF3.o)|(go_at_call 259;refine(C6.o _ _ S.x ⟨S.q0,HTL.o⟩).mono ?_;rintro e WK ⟨rfl,hp,hf⟩;replace S:=S.call hf (λD e=>e) fh (bu P D M0 s3) (λB h=>hp))|refine fN ?_|refine ew λW S=>?_)
   by_cases g2:c3=0
   case neg=>
    have g3: (c3 != 0)=true:=lh.2 g2;rw[bC g2] at HMW;have HG:=ae g2;clear g2
    go_wp2_with (first|(refine o7 ?_;rw[HMW.o];exact⟨_,_,rfl,bz,bD,dh.nil _ _,bm,S.x,S.fr⟩)|refine fN ?_|refine ew λW S=>?_)
   subst g2;rw[bX (show ¬((0:Int)≠0) from λh=>h rfl)] at HMW;have C7:=ae λW h=>qY P D M0 s3 p1 HP1.o (bs.length:Nat) W h;have hll1:=mL s3 p1 (bs.length:Nat);obtain⟨b1,hb1⟩:=cM (bQ s3 p1 (bs.length:Nat));rw[hb1] at C7 HMW hll1;obtain⟨s4,y1,l1,c4⟩:=b1;simp only at C7 hll1;rw[az HA1.o] at C7;unfold mw5 at HMW;simp only at HMW;clear hb1
   go_upto_region 18 with(first|(go_at_call 147;refine(C7.o _ S.x).mono ?_;rintro e W ⟨r,r2,rfl,-,hq,hpl,hp,hf⟩;have HF4:=ae (aH hq);have HPL1:=ae hpl;replace S:=S.pO hf (λD e=>e) fh (bu P D M0 s4) (λB h=>hp) hq rfl rfl;clear hq hpl;obtain⟨ha,hc,rfl⟩:=HF4.o)|refine fN ?_)
   by_cases g2:c4=0
   case neg=>
    have g3: (c4 != 0)=true:=lh.2 g2;rw[bC g2] at HMW;have HG:=ae g2;clear g2
    go_wp2_with (first|(refine o7 ?_;rw[HMW.o];exact⟨_,_,rfl,bz,bD,dh.nil _ _,bm,S.x,S.fr⟩)|refine fN ?_|refine ew λW S=>?_)
   subst g2;rw[bX (show ¬((0:Int)≠0) from λh=>h rfl)] at HMW;have C8:=ae λW h=>qY P D M0 s4 p2 HP2.o (sp.length:Nat) W h;have hll2:=mL s4 p2 (sp.length:Nat);obtain⟨b2,hb2⟩:=cM (bQ s4 p2 (sp.length:Nat));rw[hb2] at C8 HMW hll2;obtain⟨s5,y2,l2,c5⟩:=b2;simp only at C8 HMW hll2;rw[az HA2.o] at C8;clear hb2
   go_upto_region 21 with(first|(go_at_call 147;refine(C8.o _ S.x).mono ?_;rintro e W ⟨r,r2,rfl,-,hq,hpl,hp,hf⟩;have HF5:=ae (aH hq);have HPL2:=ae hpl;replace S:=S.pO hf (λD e=>e) fh (bu P D M0 s5) (λB h=>hp) hq rfl rfl;clear hq hpl;obtain⟨ia,ic,rfl⟩:=HF5.o)|refine fN ?_)
   by_cases g2:c5=0
   case neg=>
    have g3: (c5 != 0)=true:=lh.2 g2;rw[bC g2] at HMW;have HG:=ae g2;clear g2
    go_wp2_with (first|(refine o7 ?_;rw[HMW.o];exact⟨_,_,rfl,bz,bD,dh.nil _ _,bm,S.x,S.fr⟩)|refine fN ?_|refine ew λW S=>?_)
   subst g2;rw[bX (show ¬((0:Int)≠0) from λh=>h rfl)] at HMW
   go_upto_region 23 with(fail)
   refine bf S cm [⟨WK.heap.size,106,3,aN q⟩] rE λW S=>?_;refine gY 0 122 (.agg A3) rfl (lq (λw h=>h.row 0 rfl) rfl HA3.o bd) ?_;refine gY 1 123 (.agg A3) rfl (lq (λw h=>h.row 0 rfl) rfl HA3.o bd) ?_;refine bp 3 125 _ ?_;refine bp 4 126 _ ?_;refine mO 2 λK hK=>?_;refine Z3 S rfl HA3.o cN au rfl λWG S=>?_;refine gM hK ?_;refine mO 5 λK hK=>?_;refine J3 S [_,_,_] underlying299 R8 au au rfl rfl (by intro v hv;simp only[iI,kz,tZ] at hv;rcases hv with rfl | rfl | rfl <;> rfl) rfl λWH S=>?_;refine gM hK ?_;refine mO 6 λK hK=>?_
   go_wp2_with fail;refine(Gj [(.slice (s_ W.heap.size 0) 1 1,[q]),(.slice ha l1.length hc,l1),(.slice ia l2.length ic,l2)] _ (show(3:Nat)<=1000 by omega) (show 1+ (l1.length+ (l2.length+0))<=100000 by omega) _ (yg S.k0 rfl (eO 3) (show(3:Nat)<=maxLen by unfold maxLen;omega) λj u hu=>⟨(sy.1 hu).1,by grind⟩) (by intro x hx;simp only[iI,kz,tZ] at hx;rcases hx with rfl | rfl | rfl;exact Uh S.k1;exact S.q1;exact ar.aV S.o0)).mono ?_;rintro e WI ⟨r,rfl,ho,hb⟩;have HF6:=ae (aH ho);replace S:=S.cU hb ho rfl rfl;clear ho;obtain⟨ja,jc,rfl⟩:=HF6.o
   refine gM hK ?_;refine mO 7 λK hK=>?_;refine dL S 5 rfl rfl rfl HA3.o bd (aE _) λW S=>?_;refine gM hK ?_;refine bp 8 7 _ ?_;refine bp 9 8 _ ?_;refine uy ?_;have HF9:=ae (show ∀v:bh,([(v,[q]),(Value.slice ha l1.length hc,l1),(Value.slice ia l2.length ic,l2)].flatMap Prod.snd)=([q]++l1)++l2 from λv=>by simp)
   go_wp2_with (refine o7 ?_;rw[HMW.o];exact⟨_,_,rfl,rfl,HQP.o,by have h9:=S.o0;rw[HF9.o] at h9 ⊢;exact h9,λy hy=>(by rcases jn.1 hy with hy | hy;rcases jn.1 hy with hy | hy;rw[gz.1 hy];exact HQP.o;exact HPL1.o y hy;exact HPL2.o y hy),S.x,S.fr⟩)
def dI (s:Pl) (l:List aq):Pl:=l.foldl (λs q=>(wQ s q).1) s
theorem Ui (s:Pl) (q:aq): (wQ s q).1.dv=s.dv:=by grind[wQ]
theorem uI (l:List aq): ∀s,(dI s l).dv=s.dv:=by
 induction l<;>grind[Ui,dI]
theorem DF {l:List aq}(hk:l[k]? =some q):dI s (l.take (k+1))=(wQ (dI s (l.take k)) q).1:=by
 grind[dI,take_add_one]
def gW (s:Pl) (b:cL) (old:List aq):Pl×(aq×(List aq×Int)):=
 match jO b with
 | none=>(s,(hole,([],151)))
 | some text=>
  if cZ (dI s old).mp<vQ text.length (dI s old).dv.n then(dI s old,(hole,([],71)))
  else j3 {dI s old with mp:=FE (dI s old).mp (vQ text.length (dI s old).dv.n:Nat)} text (wP (dI s old).mp (vQ text.length (dI s old).dv.n:Nat))
theorem Uj (h:n<=cZ st):M4 (Dh st (n:Nat))=0/\(wP st (n:Nat)).length=n/\∀x∈wP st (n:Nat),x<1024:=by
 have e:Dh st (n:Nat)=some (manyN st n):=by simp_all[Dh]
 unfold wP M4;rw[e];exact⟨rfl,(wK st h).2,V1 st n⟩
theorem Od {b:cL}(h:jO b=some t): ∀x∈t,x<256:=by
 unfold jO at h;split at h
 . cases h
 . next u hu=>
   split at h
   . cases h
   . cases h;exact yS hu
theorem Lu (P D M0:Nat)(s:Pl)(hops:s.dv.ops<=990000000)(b:bx)(B:iw)(hB:B=ah 2 (bg b))(hf:ct b.t)(old:List aq)(hold:cx old)(hol:old.length<=100000)(v:bh)(w:aD)(h:bH w P D M0 s)(RB:dN w b)(R:fM w v old):
 Calls prog 169 #[.pointer (some ⟨P,0,none⟩),.agg B,v] w λe w'=>∃A r,e=.returned (.tuple #[.agg A,r,.int .i64 (gW s b.t old).2.2.2])/\A=ah 3 (aN (gW s b.t old).2.1)/\bt (gW s b.t old).2.1/\dh w' w.heap.size r (gW s b.t old).2.2.1/\cx (gW s b.t old).2.2.1/\bH w' P D M0 (gW s b.t old).1/\Fr (some D) [M0] w w':=by
 obtain⟨ao,cap,rfl,hcap,hao⟩:=aR R;have HR:=ae R;have hao:=ae hao;have HB:=ae hB;have S:=St.start w (some D) [M0] (bu P D M0 s) h;have C1:=ae λW (f:Fr (some D) [M0] w W)=>Dy b B hB hf W (RB.fr f);obtain⟨MS,hMS⟩:=cM (gW s b.t old);rw[hMS];have HO:=ae hold;unfold gW at hMS;obtain⟨rb,HRB⟩:=qI (jO b.t);rw[HRB.o] at C1 hMS;clear hB hf hold h RB R;go_enter func169,ntmps169;cases rb with
 | none=>
  have e1:codeF 151 (none:Option aK)=151:=rfl;rw[e1] at C1;have HMW:=ae hMS.symm;clear hMS
  go_wp2_with (first|(go_at_call 221;refine(C1.o _ S.fr).mono ?_;rintro e W ⟨r,rfl,ho,hb⟩;replace S:=S.below hb)|(refine o7 ?_;rw[HMW.o];exact⟨_,_,rfl,bz,bD,dh.nil _ _,bm,S.x,S.fr⟩)|refine fN ?_|refine ew λW S=>?_)
 | some text=>
  have e1:codeF 151 (some text)=0:=rfl;rw[e1] at C1;simp only[mb] at C1 hMS;have htl:=A6 HRB.o;obtain⟨s1,HS1⟩:=qI (dI s old);have hdv:=ae (show s1.dv=s.dv by rw[<-HS1.o];exact uI old s);rw[HS1.o] at hMS;obtain⟨nd,HND⟩:=qI (vQ text.length s1.dv.n);rw[HND.o] at hMS;have HMS:=ae hMS.symm;clear e1 hMS
  go_upto_region 5 with(first|(go_at_call 221;refine(C1.o _ S.fr).mono ?_;rintro e W ⟨r,rfl,ho,hb⟩;have HF3:=ae (aH ho);replace S:=S.cU hb ho rfl rfl;obtain⟨ca,cc,rfl⟩:=HF3.o)|refine fN ?_|refine ew λW S=>?_)
  go_loopw [26] (λi wr=>∃k:Nat,k<=old.length/\i=.int .i64 k/\Hid (St w (some D) [M0] [⟨_,106,3,aN hole⟩,⟨_,99,2,bg b⟩] [⟨5,1,.slice ca text.length cc,text.length,aQ text⟩] (Ae P D M0 (dI s (old.take k))) wr)) (λi _=>old.length - (intOf i).toNat)
  case atStart=>exact⟨0,au,rfl,ae S⟩
  case round=>
   clear S;obtain⟨k,hk,rfl,hS⟩:=hrel;by_cases hlt:k<old.length
   . obtain⟨b9,o9,rfl⟩:=hao.o au;obtain⟨q,hq⟩:=cM (old[k]);obtain⟨A,hA⟩:=gq (ah 3 (aN q));have hsub:=ae (fF old hlt (A:=A) (by rw[hq];exact hA));have hq2:old[k]? =some q:=by rw[j4 hlt,hq]
     have C2:=ae λW h=>Bb P D M0 (dI s (old.take k)) q (HO.o q (nf hq2)) W h;rw[az hA,<-DF hq2] at C2;have HA:=ae hA;have S:=hS.o;clear hS hA hq hq2;have HK:=ae hlt
     go_wp2_with (first
   |((with_reducible refine pP ?_);refine Md (HR.o.fr S.fr (.inr rfl) rfl) hlt (DW HA) hsub.o ?_)
   |(go_at_call 135;refine(C2.o _ S.x).mono ?_;rintro e W ⟨rfl,hp,hf⟩;replace S:=S.call hf (λD e=>by cases e) (λk hk=>.inl hk) (bu P D M0 _) (λB h=>hp);clear hp hf)
   |refine fN ?_
   |refine ew λW S=>?_)
     go_roundw
     case rel=>have:=HK.o;exact⟨k+1,au,by go_num,ae S.pop⟩
     case measure=>have:=HK.o;simp[intOf];omega
   . obtain rfl:k=old.length:=au;have S:=hS.o;rw[wh,HS1.o] at S;clear hS;have C3:=ae λW=>NM ca text.length cc (s1.dv.n:Nat) W;rw[HND.o] at C3;have C6:=ae λW h=>count_map M0 s1.mp W h;have hmany:=Uj (st:=s1.mp) (n:=nd);obtain⟨cn,hcn⟩:=cM (cZ s1.mp);rw[hcn] at C6 HMS hmany;clear hcn;by_cases hroom:cn<nd;have hri: (cn:Int)< (nd:Int):=au;rw[bC hroom] at HMS;clear hroom hmany
     rotate_left
     have hri: ¬(cn:Int)< (nd:Int):=au;rw[bX hroom] at HMS;obtain⟨e0,e1,e2⟩:=hmany au;have hnb:nd<=20000:=by
      rw[<-HND.o];unfold vQ;have h1:=zr (text.length:Nat);have h2:=zr (dP (s1.dv.n:Nat):Nat);omega
     have C4:=ae λW h=>V2 M0 s1.mp (nd:Nat) (by unfold bT;omega) W h;rw[e0] at C4;obtain⟨s2,hs2⟩: ∃s2:Pl,{s1 with mp:=FE s1.mp (nd:Nat)}=s2:=⟨_,rfl⟩;have hs2d:s2.dv=s1.dv:=by rw[<-hs2]
     have HS2:=ae hs2;obtain⟨ml,hml⟩:=cM (wP s1.mp (nd:Nat));rw[hml] at C4 e1 e2;rw[hs2,hml] at HMS;have hnd1:mD (text.length:Nat)+1<=ml.length:=by rw[e1,<-HND.o];unfold vQ;omega
     have C5:=ae λv av W h hr ha=>IU P D M0 s2 (by rw[hs2d,hdv.o];exact hops) text au v ml av hnd1 au (λx hx=>by have:=e2 x hx;omega) W h hr ha;rw[<-HMS.o] at C5;have HLT:=ae (Od HRB.o);clear hmany hroom e0 e1 e2 hs2 hs2d hml hnd1
     all_goals
      go_wp2_with (first|(go_at_call 106;refine(iJ P D M0 _ _ _ S.x.row).mono ?_;rintro e W ⟨rfl,rfl⟩)|(go_at_call 84;refine(uw D _ _ S.x.dev).mono ?_;rintro e W ⟨rfl,rfl⟩)|(go_at_call 222;refine je S (C3.o _) λW S=>?_)|(go_at_call 25;refine(jJ P D M0 _ _ _ S.x.row).mono ?_;rintro e W ⟨rfl,rfl⟩)|(go_at_call 61;refine qJ (C6.o _ S.x.map) ?_)|(go_at_call 223;refine(C4.o _ S.x.map).mono ?_;rintro e W ⟨v,rfl,ho,hm,hb⟩;have hp:=S.x.Zr hb hm;replace S:=S.pO hp.2 (λD e=>by cases e) (λk hk=>.inl hk) (bu P D M0 s2) (λB h=>by rw[<-HS2.o];exact hp.1) ho rfl rfl;clear hm hp)|(go_at_call 224;refine(C5.o _ _ _ S.x ⟨S.q1,HLT.o⟩ S.q0).mono ?_;rintro e W ⟨A,r,rfl,hA,hpp,ho,hpl,hp,hf⟩;have HA:=ae hA;have HPP:=ae hpp;have HPL:=ae hpl;replace S:=S.pO hf (λD e=>e) fh (bu P D M0 _) (λB h=>hp) ho rfl rfl;clear hA hpp hpl hp hf)|refine fN ?_|refine ew λW S=>?_|(refine o7 ?_;rw[HMS.o];exact⟨_,_,rfl,bz,bD,dh.nil _ _,bm,S.x,S.fr⟩)|(refine o7 ?_;exact⟨_,_,rfl,rfl,HPP.o,S.o0,HPL.o,S.x,S.fr⟩))
theorem QO (v u:bh)(l:List (Int×Int))(ms:List fL)(w:aD)(hv:bK w v l)(hu:mR w u ms):
 Calls prog 204 #[v,u] w λe w'=>∃r,e=.returned (.tuple #[r,.int .i64 (Mx (pg l ms))])/\kr w' w.heap.size r ((pg l ms).getD [])/\bK w' r ((pg l ms).getD [])/\dp w w':=by
 obtain⟨i0,hi,hz0,hz1',hz2⟩:=sC UU;have HV:=ae hv;clear hv;obtain⟨uo,ucap,rfl,hulen,huw,huc⟩:=hu;have HU:=ae huc;clear huc;have HW:=ae huw;clear huw;obtain⟨S,HS⟩:=BU (pg l ms);rw[<-HS.o];obtain⟨r,HR⟩:=qI (cX l);go_enter func204,ntmps204
 go_wp2_with fail
 refine(nV r _ l HR.o _ HV.o).mono ?_;rintro e w1 ⟨rfl,hb1⟩;cases r with
 | false=>
  have HN:Hid (S=none):=by unfold Hid;rw[HS.o];unfold pg;rw[HR.o];rfl
  go_wp2;refine kg (v:=.tuple #[.slice none 0 0,.int .i64 81]) (by simp[results,results204,go_sem]) rfl ⟨_,by rw[HN.o];rfl,by rw[HN.o];exact ju _ _ _ _,by rw[HN.o];exact oA _,hb1⟩
 | true=>
 obtain⟨f,hf⟩:=gq (bitsOf l);have HSF:Hid (S=(l7 f ms).map ed):=by unfold Hid;rw[HS.o,hf];unfold pg;rw[HR.o];rfl
 have HF:=ae hf;clear hf;have hz1:=hb1.size;obtain⟨Wa,hWa⟩:=gq (w1.alloc (.cells zeroCells248 248));have hra:ag Wa w1.heap.size 248 4096 (cj λ_=>false):=by rw[hWa,Rl];exact ag.alloc _ _ _ _
 have hBa:dp w Wa:=by rw[hWa];exact hb1.alloc hz1 _
 go_wp2_with fail
 rw[<-hWa];clear hWa;refine(Rp _ l _ (HV.o.below hBa)).mono ?_;rintro e w2 ⟨z,rfl,hz,hb2⟩;have hB2:=Below.step hBa hBa.size hb2;have hr2:=hra.below hb2;obtain⟨q,hq⟩:=gq (kq l);rw[<-hq] at hz;have HIN:Hid (∀k (hk:k<q.length),0<=q[k]/\q[k]<4096):=by subst hq;exact λk hk=>Rs HR.o hk
 have HQ:Hid (∀n,n<4096->lM q n=f n):=by subst hq;exact λn hn=>(Kq HR.o hn).trans (by rw[HF.o])
 clear hq;obtain⟨zo,zcap,rfl,hzlen,_,hzc⟩:=hz;obtain⟨b,o,HZ⟩: ∃b o,q≠ []->zo=s_ b o/\b≠w1.heap.size/\∀j (h:j<q.length),w2.cell? ⟨b,o+j,none⟩=some (.int .i64 q[j]):=by
  by_cases hqn:q=[]
  . exact⟨0,0,λh=>absurd hqn h⟩
  . obtain⟨b,o,h1,h2,h3⟩:=hzc hqn;refine⟨b,o,λ_=>⟨h1,?_,h3⟩⟩;rintro rfl;have h4:=h3 0 (Nat.pos_of_ne_zero λh=>hqn (Jp h));rw[cell_of_row w2 w1.heap.size _ _ 248 _ hr2,aF] at h4;split at h4 <;> simp[cj] at h4
 have HZ1:Hid (q≠ []->zo=s_ b o/\b≠w1.heap.size):=λh=>⟨(HZ h).1,(HZ h).2.1⟩;have HZ2:Hid (q≠ []->∀j (h:j<q.length),w2.cell? ⟨b,o+j,none⟩=some (.int .i64 q[j])):=λh=>(HZ h).2.2;clear HZ hzc
 go_wp2_with fail
 go_loopw [22] (λi wr=>∃(k:Nat),k<=q.length/\i=.int .i64 k/\ag wr w1.heap.size 248 4096 (cj (lM (q.take k)))/\Hid (q≠ []->∀j (h:j<q.length),wr.cell? ⟨b,o+j,none⟩=some (.int .i64 q[j]))/\dp w wr)
  (λi _=>q.length - (intOf i).toNat)
 case atStart=>exact⟨0,kf _,rfl,hr2.congr (λi _=>by simp[cj,lM]),HZ2,hB2⟩
 case round=>
  clear hr2 HZ2 hB2;obtain⟨k,hk,rfl,hrr,HC4,hbel⟩:=hrel;by_cases hlt:k<q.length
  . have hqn:q≠ []:=by intro h;simp[h] at hlt
    obtain⟨rfl,hbD⟩:=HZ1.o hqn;have h1:=HC4.o hqn k hlt;obtain⟨n,hn⟩: ∃n:Nat,q[k]=(n:Int):=⟨q[k].toNat,by have:=HIN.o k hlt;omega⟩;have hin:=HIN.o k hlt;have HN:=ae hn;rw[hn] at h1 hin;clear hn hqn;have hc1:=hrr.cell (i:=n) au;have hf1:=hrr.frozen n;simp only[cj] at hc1;have hi1: (n:Int)< (4096:Int):=au;have hi0: (0:Int)<=(n:Int):=au;go_wp2;go_roundw
    case rel=>
     refine⟨k+1,au,by go_num,hrr.setBool n true (λj hj=>?_),λhh j hj=>(z6 (SH _ _ _ _ (by show b≠w1.heap.size;exact hbD))).trans (HC4.o hh j hj),hbel.setCell (p:=⟨w1.heap.size,n,none⟩) hz1 _⟩;rw[tC hlt,HN.o];by_cases hjn:j=n
     . subst hjn;simp
     . rw[bX hjn,iE au,Bool.or_false]
    case measure=>exact uO
  . obtain rfl:k=q.length:=au;rw[wh] at hrr;have hrb:ag wr w1.heap.size 248 4096 (cj f):=hrr.congr (λn hn=>by simp only[cj];rw[HQ.o n hn])
    go_wp2_with fail
    go_loopw [31] (λi wr=>∃(k:Nat) (g:Nat->Bool),k<=ms.length/\i=.int .i64 k/\ag wr w1.heap.size 248 4096 (cj g)/\Hid (S=(l7 g (ms.drop k)).map ed)/\dp w wr)
     (λi _=>ms.length - (intOf i).toNat)
    case atStart=>exact⟨0,f,kf _,rfl,hrb,HSF,hbel⟩
    case round=>
     clear hrb hbel hrr hlt hk;obtain⟨k,g,hk,rfl,hrr,HG,hbel⟩:=hrel;have hsz:=hbel.size;by_cases hlt:k<ms.length
     . obtain⟨b,o,rfl,hbs,hcell⟩:=HU.o (by intro h;simp[h] at hlt);obtain⟨h1,h2,h3⟩:=BW hbs hcell hbel hlt;clear hcell;have hw:=HW.o _ (tW hlt);have HD:Hid (ms.drop k=ms[k]::ms.drop (k+1)):=UY hlt;obtain⟨⟨t,s,n⟩,hx⟩: ∃x,x=ms[k]:=⟨_,rfl⟩;rw[<-hx] at h1 h2 h3 hw HD;clear hx;simp only at h1 h2 h3 hw;have HWW:=ae hw;clear hw;obtain⟨c,HC⟩:=qI (fj s n)
       go_wp2_with fail
       obtain⟨We,hWe⟩:=gq (wr.alloc (.cells #[.bool t,.int .i64 s,.int .i64 n] 334));have p0:We.cell? ⟨wr.heap.size,0,none⟩=some (.bool t):=by rw[hWe];exact Hk _ _ _ _ rfl
       have p1:We.cell? ⟨wr.heap.size,1,none⟩=some (.int .i64 s):=by rw[hWe];exact Hk _ _ _ _ rfl
       have p2:We.cell? ⟨wr.heap.size,2,none⟩=some (.int .i64 n):=by rw[hWe];exact Hk _ _ _ _ rfl
       have hse:We.heap.size=wr.heap.size+1:=by rw[hWe];simp
       have hBe:dp w We:=by rw[hWe];exact hbel.alloc hsz _
       have hre:ag We w1.heap.size 248 4096 (cj g):=by rw[hWe];exact hrr.alloc_old _
       have hlt2:=hrr.lt;rw[<-hWe];clear hWe hbel hrr h1 h2 h3;obtain⟨E,hE⟩:=gq wr.heap.size;rw[<-hE] at p0 p1 p2 hse hlt2 hsz ⊢;clear hE;refine(wE t s n HWW.o _).mono ?_;rw[HC.o];rintro e w4 ⟨rfl,hb4⟩;have hB4:=Below.step hBe hBe.size hb4;have hr4:=hre.below hb4;have q0:=(hb4.cell (p:=⟨E,0,none⟩) (by show E<We.heap.size;omega)).trans p0;have q1:=(hb4.cell (p:=⟨E,1,none⟩) (by show E<We.heap.size;omega)).trans p1;have q2:=(hb4.cell (p:=⟨E,2,none⟩) (by show E<We.heap.size;omega)).trans p2;have hs4:=hb4.size;have hne:E≠w1.heap.size:=au;clear p0 p1 p2 hBe hre hb4;cases c with
       | false=>
        have HN:Hid (S=none):=by unfold Hid;rw[HG.o,HD.o,Hl HC.o];rfl
        go_wp2;refine kg (v:=.tuple #[.slice none 0 0,.int .i64 81]) (by simp[results,results204,go_sem]) rfl ⟨_,by rw[HN.o];rfl,by rw[HN.o];exact ju _ _ _ _,by rw[HN.o];exact oA _,hB4⟩
       | true=>
        obtain⟨g1,g2,g3,g4⟩:=(cW s n).1 HC.o;obtain⟨a,rfl⟩: ∃a:Nat,s=(a:Int):=⟨s.toNat,au⟩;obtain⟨m,rfl⟩: ∃a:Nat,n=(a:Int):=⟨n.toNat,au⟩;have HN0:Hid (∀j,j<=m->kU g a t j=true->S=none):=by
         intro j hj hcl;rw[HG.o,HD.o,CD]
         . rfl
         . exact Ew hcl (by simpa using hj)
        have HN1:Hid (kU g a t m=false->S=(l7 (ud g a t m) (ms.drop (k+1))).map ed):=by
         intro hcl;rw[HG.o,HD.o,Ex HC.o (by simpa using hcl)];simp
        have w1':IntKind.i64.wrap ((a:Int)+ (m:Int))=(a:Int)+ (m:Int):=mT _ au
        go_wp2_with fail
        go_loopw [41] (λi wr3=>∃(p j:Nat),p=a+j/\j<=m/\i=.int .i64 j/\ag wr3 w1.heap.size 248 4096 (cj (ud g a t j))/\Hid (kU g a t j=false)/\(wr3.cell? ⟨E,0,none⟩=some (.bool t)/\wr3.cell? ⟨E,1,none⟩=some (.int .i64 a)/\wr3.cell? ⟨E,2,none⟩=some (.int .i64 m))/\E<wr3.heap.size/\dp w wr3)
         (λi _=>m - (intOf i).toNat)
        case atStart=>exact⟨a,0,rfl,kf _,rfl,hr4.congr (λi _=>by simp only[cj];rw[Ko]),rfl,⟨q0,q1,q2⟩,au,hB4⟩
        case round=>
         clear q0 q1 q2 hr4 hB4;obtain⟨p,j,hpj,hj,rfl,hr5,HJ,⟨q0,q1,q2⟩,hlw,hB5⟩:=hrel;by_cases hjl:j<m
         . have hlt5: (j:Int)< (m:Int):=au;have w6:IntKind.i64.wrap ((a:Int)+ (j:Int))=(p:Int):=by rw[mT _ au];omega
           have hi1: (p:Int)< (4096:Int):=au;have hi0: (0:Int)<=(p:Int):=au;have hc5:=hr5.cell (i:=p) au;have hf5:=hr5.frozen p;simp only[cj] at hc5;rw[hpj,Rr,<-hpj] at hc5;obtain⟨y,hy⟩:=cM (g p);rw[hy] at hc5;have HY:Hid (kU g a t (j+1)=(y==t)):=by
            unfold Hid;rw[Ev,HJ.o,<-hpj,hy];rfl
           clear hy;have HPJ:=ae hpj;clear hpj;have hE0: ∀(W:aD) (v:bh) (o:Nat),(W.setCell ⟨w1.heap.size,p,none⟩ v).cell? ⟨E,o,none⟩=W.cell? ⟨E,o,none⟩:=λW v o=>
            z6 (SH _ _ _ _ (by show E≠w1.heap.size;exact hne))
           have HE0:=ae hE0;clear hE0;cases t <;> cases y
           case false.false | true.true=>
            have HN:Hid (S=none):=HN0.o (j+1) au HY.o
            go_wp2_with (go_quiet (fail))
            refine kg (v:=.tuple #[.slice none 0 0,.int .i64 81]) (by simp[results,results204,go_sem]) rfl ⟨_,by rw[HN.o];rfl,by rw[HN.o];exact ju _ _ _ _,by rw[HN.o];exact oA _,by refine below_drewN ?_ _;exact hB5⟩
           all_goals
            have w5:IntKind.i64.wrap ((j:Int)+1)=(j:Int)+1:=mT _ au
            go_wp2_with (go_quiet (fail))
            go_roundw
            case rel=>
             refine⟨p+1,j+1,by have:=HPJ.o;omega,au,by go_num,ag.setBool (w:=wr.drewN _) hr5 p _ (λn _=>by rw[Kp,<-HPJ.o]),HY.o,
              ⟨(HE0.o (wr.drewN _) _ _).trans q0,(HE0.o (wr.drewN _) _ _).trans q1,(HE0.o (wr.drewN _) _ _).trans q2⟩,
              uj hlw (Below.size (B:=w.heap.size) ((below_drewN (iU _ wr) _).setCell (p:=⟨w1.heap.size,p,none⟩) hz1 _)),(below_drewN hB5 _).setCell (p:=⟨w1.heap.size,p,none⟩) hz1 _⟩
            case measure=>exact uO
         . have hjm:j=m:=au;subst hjm;have hge: ¬(j:Int)< (j:Int):=au;have HS2:=HN1.o HJ.o;have HS2:=ae HS2;go_wp2;go_roundw
           case rel=>exact⟨k+1,ud g a t j,au,by go_num,hr5,HS2,hB5⟩
           case measure=>exact uO
     . obtain rfl:k=ms.length:=au;have HG2:Hid (S=some (ed g)):=by unfold Hid;rw[HG.o,drop_length];rfl
       have hrr':=hrr
       go_wp2_with (refine my (o:=⟨some 61,.load 248 (.tmp 6),_,_,_,none⟩) rfl 248 (.tmp 6) rfl w1.heap.size rfl 4096 248 _ hrr' _ underlying248 rfl UX ?_)
       obtain⟨A,hA⟩:=gq (ah 4096 (cj g));have HA:Hid (∀k,k<4096->A[k]? =some (.bool (g k))):=by intro k hk;rw[hA,aF,bC hk];rfl
       have hAs:A.size=4096:=by rw[hA,aj]
       rw[<-hA];clear hA hrr';have hown0:=ju wr w.heap.size 3 1
       go_loopw [13,62] (λx i wr=>∃(k:Nat),k<=4096/\i=.int .i64 k/\wr.ownsRow w.heap.size 3 1 x (fw g k).length ((fw g k).map (Value.int .i64))/\dp w wr)
        (λ_ i _=>4096 - (intOf i).toNat)
       case atStart=>exact⟨0,kf _,rfl,hown0,hbel⟩
       case round=>
        clear hown0 hbel hrr;obtain⟨k,hk,rfl,hown,hbel⟩:=hrel;have hsz:=hbel.size;by_cases hlt:k<4096
        . have hi1: (k:Int)< (4096:Int):=au;have hle:=kD g k;have hAk:=HA.o k hlt;by_cases hf:g k=true
          . rw[hf] at hAk;have hix:=Fg A k true hlt hAk;have HS5:Hid (fw g (k+1)=fw g k++[(k:Int)]):=by unfold Hid;rw[qb,bC hf]
            clear hf;have HLT:=ae hown.lt
            go_wp2_with (first |(at_builtin;refine Fc _ rfl _ _ 81 rfl w.heap.size 3 i0 (.int .i64 0) 1 8 um hi hz0 hz1' hz2 rfl nh _ _ _ rfl (hown.alloc _) ⟨wr.heap.size,0,none⟩ 1 1 [.int .i64 k] rfl rfl (cell_one_new _ _ _) (by simp[Value.oneCell']) (by unfold maxLen;omega) au (by simp;omega) ?_;intro v' w2 hown' hgrow _))
            go_roundw
            case rel=>
             refine⟨k+1,au,by go_num,?_,(hbel.alloc au _).grown hgrow (by simp;omega) (λj h=>(HLT.o j h).1)⟩;rw[HS5.o,kh,pt];exact hown'
            case measure=>exact uO
          . have hf':g k=false:=by simpa using hf
            rw[hf'] at hAk;have hix:=Fg A k false hlt hAk;have HS5:Hid (fw g (k+1)=fw g k):=by unfold Hid;rw[qb,bX hf]
            clear hf hf';go_wp2;go_roundw
            case rel=>exact⟨k+1,au,by go_num,by rw[HS5.o];exact hown,hbel⟩
            case measure=>exact uO
        . obtain rfl:k=4096:=au;have hx:=lz hown (EN g 4096 (eO _)) (kL (kD g 4096) au);have HX:=ae hx;clear hown hx
          go_wp2_with fail
          refine(VZ _ _ _ HX.o).mono ?_;have hE:ed (lM (fw g 4096))=ed g:=re λn hn=>by
           unfold lM;rw[DX,yy,oz];constructor
           . rintro⟨_,_,h3⟩;simpa using h3
           . intro h3;exact⟨au,au,by simpa using h3⟩
          rw[hE];clear hE;rintro e w5 ⟨y,rfl,hy,hb5⟩;have hB5:=Below.step hbel hsz hb5;go_wp2;refine kg (v:=.tuple #[y,.int .i64 0]) (by simp[results,results204,go_sem]) rfl ⟨_,by rw[HG2.o];rfl,by rw[HG2.o];exact hy.mono hsz,by rw[HG2.o];exact kr.sl hy,hB5⟩
theorem abt {bs:aK}(h:bs.length=2):kx [2] bs=some [et bs]:=by
 unfold kx
 simp_all[getAll,tX,okW,nN]
theorem aai {bs:aK}(h:bs.length=2)(hb: ∀x∈bs,x<256):et bs<65536:=by
 obtain⟨a,b,rfl⟩: ∃a b,bs=[a,b]:=by
  match bs,h with
  | [a,b],_=>grind
 have h1:=hb a fh;have h2:=hb b fh
 grind[et]
theorem bK.nil (w:aD):bK w (.slice none 0 0) []:=⟨none,0,rfl,by simp,by simp,by simp⟩
def nS (total:Int) (b:aK):Option (List (Int×Int)):=
 if dP total=0∨b.length≠dP total then none else
 if(dP total - 2) / 5<et (b.take 2) then none else
 (vJ (aW ((b.take (2+5*et (b.take 2))).drop 2))).bind λms=>(pg [] ms).bind λset=>(gJ total set).bind λt=>if t=b then some set else none
theorem Gl (total:Int)(htot:bT total)(v:bh)(b:aK)(hbl: ∀x∈b,x<256)(w:aD)(R:ar w 5 1 v b.length (aQ b)):
 Calls prog 152 #[.int .i64 total,v] w λe w'=>∃r,e=.returned (.tuple #[r,.int .i64 (codeF 81 (nS total b))])/\kr w' w.heap.size r ((nS total b).getD [])/\bK w' r ((nS total b).getD [])/\dp w w':=by
 obtain⟨ao,cap,rfl,hcap,hao⟩:=aR R;have HR:=ae R;have HLT:=ae hbl;obtain⟨T,hT⟩:=cM (nS total b);rw[hT];unfold nS at hT;obtain⟨n,hn⟩:=cM (dP total);have hn5:=uQ total;have hnb:=yh total;rw[hn] at hn5 hnb hT;have HN:=ae hn;have S:=ug w;clear R hbl;go_enter func152,ntmps152;by_cases h0:n=0
 . rw[bC (.inl h0)] at hT;subst hT;have g0: ((n:Int)==0)=true:=by rw[Em];omega
   clear h0
   go_wp2_with (go_at_call 202;refine(fX total _).mono ?_;rintro e W' ⟨rfl,rfl⟩;rw[HN.o])
   go_ret2;exact⟨_,rfl,ju _ _ _ _,bK.nil _,S.b⟩
 have g0: ((n:Int)==0)=false:=by rw[k'];omega
 by_cases h1:b.length=n
 case neg=>
  rw[bC (.inr h1)] at hT;subst hT;have g1: (((b.length:Nat):Int) !=((n:Nat):Int))=true:=by rw[lh];omega
  clear h0 h1
  go_wp2_with (go_at_call 202;refine(fX total _).mono ?_;rintro e W' ⟨rfl,rfl⟩;rw[HN.o])
  go_ret2;exact⟨_,rfl,ju _ _ _ _,bK.nil _,S.b⟩
 have g1: (((b.length:Nat):Int) !=((n:Nat):Int))=false:=by rw[DY];omega
 rw[bX (by intro h;rcases h with h | h;exact h0 h;exact h h1)] at hT;have h2n:2<=b.length:=au;have HT1:=ae (show ar w 5 1 (.slice ao 2 cap) 2 (aQ (b.take 2)) from by have h9:=ar.take HR.o (i:=2) h2n;rwa [wy,od] at h9);have C2:=ae λv u W hv hu hc=>yC v u [2] (b.take 2) nh W hv hu hc;have ht2: (b.take 2).length=2:=by rw[pM];omega
 have hnum:=aai ht2 (λx hx=>HLT.o x (rD hx));rw[abt ht2] at C2;have e21:codeF 21 (some [et (b.take 2)])=0:=rfl;rw[e21] at C2;simp only[mb] at C2;obtain⟨nn,hnn⟩:=cM (et (b.take 2));rw[hnn] at C2 hT hnum;have HW1:=ae (show ∀y∈aW [2],(Lit.int .i64 y).wf=true by decide);obtain⟨m5,hm5⟩:=cM ((n - 2) / 5);rw[hm5] at hT;have hq: ((n:Int) - 2).tdiv 5=(m5:Int):=by
  rw[<-hm5,Int.tdiv_eq_ediv_of_nonneg au];omega
 have hm5b:m5<=513:=au;have HLN:=ae h1;clear e21 ht2 hnn h1
 go_upto_region 5 with(first|(go_at_call 202;refine(fX total _).mono ?_;rintro e W' ⟨rfl,rfl⟩;rw[HN.o])|((with_reducible refine j6 23 81 1 ?_);refine eY S .i64 (aW [2]) um lH au au rfl rfl rfl λW S=>?_)|((with_reducible refine ej 25 22 24 ?_);refine Nr nC rfl rfl (y:=2) au ?_)|(go_at_call 29;refine(C2.o _ _ _ (br.row S.k0 rfl (show(1:Nat)<=_ by omega) HW1.o) (HT1.o.below S.b |>.iC (λx hx=>HLT.o x (rD hx))) ⟨_,_,_,rfl,au⟩).mono ?_;rintro e W ⟨r,rfl,ho,hb⟩;obtain⟨ng,nc,rfl⟩:=NY ho;replace S:=S.cU hb ho rfl rfl;clear ho hb))
 replace S:St w none [] _ [⟨82,1,.slice (s_ ng 0) 1 nc,1,Eb [nn]⟩] _ _:=S;by_cases hbig:m5<nn;rw[bC hbig] at hT;subst hT
 rotate_left
 rw[bX hbig] at hT;obtain⟨kk,hkk⟩:=cM (2+5*nn);rw[hkk] at hT;have hki: (2:Int)+5* (nn:Int)=(kk:Int):=au;have hk2:2<=kk:=au;have hkn:kk<=n:=au;have hkc:kk<=cap:=by have:=HLN.o;omega
 have hw0:IntKind.i64.wrap (5* (nn:Int))=5* (nn:Int):=mT _ au;have HT2:=ae (show ar w 5 1 (.slice (fD ao cap 2 1) (kk - 2) (cap - 2)) (kk - 2) (aQ ((b.take kk).drop 2)) from by
  have h9:=ar.vN (ar.take HR.o (i:=kk) (by have:=HLN.o;omega)) (i:=2) hk2
  rwa [wy,wy,od,qt] at h9)
 obtain⟨lg,hlg⟩:=cM ((b.take kk).drop 2);have HLT2:=ae (show ∀x∈lg,x<256 by rw[<-hlg];exact λx hx=>HLT.o x (rD (vF hx)));rw[hlg] at HT2 hT;have C3:=ae λu W hu hc=>WZ u (aW lg) W hu hc;obtain⟨rs,hrs⟩:=cM (vJ (aW lg));rw[hrs] at C3 hT;have HK:=ae hkk;have HBIG:decide (m5<nn)=false:=iE hbig;clear hrs hlg hbig hkk;rcases rs with _ | ms;rw[Option.bind_none] at hT;subst hT;have e1:Fp (none:Option (List fL))=81:=rfl;rw[e1] at C3
 rotate_left
 rw[EX] at hT;have e1:Fp (some ms)=0:=rfl;rw[e1] at C3;simp only[mb] at C3;have C4:=ae λv u W hv hu=>QO v u [] ms W hv hu;obtain⟨rp,hrp⟩:=cM (pg [] ms);rw[hrp] at C4 hT;clear hrp e1;rcases rp with _ | set;rw[Option.bind_none] at hT;subst hT;have e2:Mx (none:Option (List (Int×Int)))=81:=rfl;rw[e2] at C4
 rotate_left
 rw[EX] at hT;have e2:Mx (some set)=0:=rfl;rw[e2] at C4;simp only[mb] at C4;have C5:=ae λv W hv=>yZ total htot v set W hv;obtain⟨tx,htx⟩:=cM (gJ total set);rw[htx] at C5 hT;have HTX:=ae htx;clear htx e2;rcases tx with _ | tx
 . rw[Option.bind_none] at hT;subst hT;have e2:codeF 81 (none:Option aK)=81:=rfl;rw[e2] at C5
   go_wp2_with (first|((with_reducible refine cP 34 82 33 ?_);refine cV cm ?_;refine bM (v:=.int .u64 nn) (by have h9:=S.q0.cellAt (j:=0) (u:=.int .u64 nn) au rfl;exact h9) rfl bF ?_)|((with_reducible refine aG 45 82 44 ?_);refine bM (v:=.int .u64 nn) (by have h9:=S.q0.cellAt (j:=0) (u:=.int .u64 nn) au rfl;exact h9) rfl bF ?_)|((with_reducible refine ej 49 22 42 ?_);refine Gk nC rfl rfl rfl (y:=2) (k:=kk) hk2 hkc ?_)|(go_at_call 203;refine(C3.o _ _ (HT2.o.below S.b |>.iC HLT2.o) ⟨_,_,_,rfl,au⟩).mono ?_;rintro e W ⟨r,rfl,hm,hb⟩;have HM:=ae hm;replace S:=S.below hb;clear hm hb)|(go_at_call 204;refine(C4.o _ _ _ (bK.nil _) HM.o).mono ?_;rintro e W ⟨r,rfl,ho,hm,hb⟩;have HS:=ae hm;replace S:=S.cU hb ho rfl rfl;clear hm hb ho)|(go_at_call 205;refine(C5.o _ _ HS.o).mono ?_;rintro e W ⟨r,rfl,ho,hb⟩;replace S:=S.below hb;clear ho hb))
   go_ret2;exact⟨_,rfl,ju _ _ _ _,bK.nil _,S.b⟩
 rw[EX] at hT;have e2:codeF 81 (some tx)=0:=rfl;rw[e2] at C5;simp only[mb] at C5;have HTL:=ae (Bm HTX.o);have C6:=ae λv u W R1 R2=>r5 v u tx b 5 5 tx.length b.length HTL.o HLT.o W R1 R2;obtain⟨same,hsame⟩:=cM (decide (tx=b));rw[hsame] at C6;have hT2:T=if same=true then some set else none:=by rw[<-hT,<-hsame];by_cases h:tx=b <;> simp[h]
 clear hT e2 hsame;rcases same with _ | _
 . rw[bX nh] at hT2;subst hT2
   go_wp2_with (first|((with_reducible refine cP 34 82 33 ?_);refine cV cm ?_;refine bM (v:=.int .u64 nn) (by have h9:=S.q0.cellAt (j:=0) (u:=.int .u64 nn) au rfl;exact h9) rfl bF ?_)|((with_reducible refine aG 45 82 44 ?_);refine bM (v:=.int .u64 nn) (by have h9:=S.q0.cellAt (j:=0) (u:=.int .u64 nn) au rfl;exact h9) rfl bF ?_)|((with_reducible refine ej 49 22 42 ?_);refine Gk nC rfl rfl rfl (y:=2) (k:=kk) hk2 hkc ?_)|(go_at_call 203;refine(C3.o _ _ (HT2.o.below S.b |>.iC HLT2.o) ⟨_,_,_,rfl,au⟩).mono ?_;rintro e W ⟨r,rfl,hm,hb⟩;have HM:=ae hm;replace S:=S.below hb;clear hm hb)|(go_at_call 204;refine(C4.o _ _ _ (bK.nil _) HM.o).mono ?_;rintro e W ⟨r,rfl,ho,hm,hb⟩;have HS:=ae hm;replace S:=S.cU hb ho rfl rfl;clear hm hb ho)|(go_at_call 205;refine(C5.o _ _ HS.o).mono ?_;rintro e W ⟨r,rfl,ho,hb⟩;replace S:=S.cU hb ho rfl rfl;clear ho hb)|(go_at_call 32;refine qJ (C6.o _ _ _ S.q0 (HR.o.below S.b)) ?_))
   go_ret2;exact⟨_,rfl,ju _ _ _ _,bK.nil _,S.b⟩
 rw[bC rfl] at hT2;subst hT2
 all_goals
  go_wp2_with (first|((with_reducible refine cP 34 82 33 ?_);refine cV cm ?_;refine bM (v:=.int .u64 nn) (by have h9:=S.q0.cellAt (j:=0) (u:=.int .u64 nn) au rfl;exact h9) rfl bF ?_)|((with_reducible refine aG 45 82 44 ?_);refine bM (v:=.int .u64 nn) (by have h9:=S.q0.cellAt (j:=0) (u:=.int .u64 nn) au rfl;exact h9) rfl bF ?_)|((with_reducible refine ej 49 22 42 ?_);refine Gk nC rfl rfl rfl (y:=2) (k:=kk) hk2 hkc ?_)|(go_at_call 203;refine(C3.o _ _ (HT2.o.below S.b |>.iC HLT2.o) ⟨_,_,_,rfl,au⟩).mono ?_;rintro e W ⟨r,rfl,hm,hb⟩;have HM:=ae hm;replace S:=S.below hb;clear hm hb)|(go_at_call 204;refine(C4.o _ _ _ (bK.nil _) HM.o).mono ?_;rintro e W ⟨r,rfl,ho,hm,hb⟩;have HS:=ae hm;replace S:=S.cU hb ho rfl rfl;clear hm hb ho)|(go_at_call 205;refine(C5.o _ _ HS.o).mono ?_;rintro e W ⟨r,rfl,ho,hb⟩;have HS2:=ae (HS.o.below hb);replace S:=S.cU hb ho rfl rfl;clear ho hb)|(go_at_call 32;refine qJ (C6.o _ _ _ S.q0 (HR.o.below S.b)) ?_))
  go_ret2
  first | exact⟨_,rfl,ju _ _ _ _,bK.nil _,S.b⟩ | exact⟨_,rfl,S.o1,HS2.o,S.b⟩
attribute [local go_sem] Oper.semAt_some
def Sa (Q:Exit->Act->aD->Prop):Exit->Act->aD->Prop
 | .normal,a,w=>Q .normal a w
 | _,_,_=>False
theorem xt (h:Q .normal a w):Sa Q .normal a w:=h
theorem Uk: ¬LetsOut (Sa Q):=λ⟨_,_,h⟩=>h
theorem QP {F:Fence}(hF:Open F){l:aK}{ops:List Oper}(S:St w0 d l L O X w)(hm:P.follows .mixedOrders=true)(hd:AF ops=true)(h: ∀W,St w0 d l L O X W->wpAnyH P .any ops.toArray (Sa Q) (SE w0 d l L O) ops.toArray.size (Array.replicate ops.toArray.size false) a W): (Code.region id ops.toArray true).wpIn F n P Q a w:=
 Code.wpIn_mono (Q:=Sa Q) (λe a w h=>by cases e <;> first | exact h | exact h.elim) (tH hF S hm hd Uk h)
theorem Oe:fZ prog 103:=⟨⟨_,underlying103,rfl⟩,cm⟩
instance inbdb10 :qD 103:=⟨Oe⟩
def Ul (l:List aZ) (own:Nat) (pre:List (Fin l.length)):Nat:=(pre.filter λz=>decide ((l.get z).owner=own)).length
theorem Ka (l:List aZ)(own:Nat)(pre:List (Fin l.length))(z:Fin l.length):Ul l own (pre++[z])=if(l.get z).owner=own then Ul l own pre+1 else Ul l own pre:=by
 unfold Ul
 grind
def fg (l:List cu) (s:cu):Bool:=
 if s.snap=false then true else
 match cR l s.owner with
 | none=>false
 | some i=>if(di l i).snap=true then false else decide (((l.filter λx=>decide (x.prev=s.id)).filter λx=>decide (x.owner=s.owner)).length=1)
theorem Gm {l:List aZ}{s:cu}{x:aZ}(hs:s.snap=true)(hp:cR (bA l) s.owner=some i)(hx:l[i]? =some x):fg (bA l) s=if x.snap=true then false else decide (Ul l s.owner (mn l s.id l.length)=1):=by
 unfold fg;rw[hp,hs];simp only[bX (show ¬(true=false) by decide)];rw[fW hx,yd,filter_map,pr];rfl
theorem IV (l:List aZ)(v:bh)(hl:l.length<=1000000)(s:aZ)(sb so:Nat)(w:aD)(R:cQ w v l)(H:kQ w sb so s):
 CallsIn Fence.wide 5 prog 201 #[v,.pointer (some ⟨sb,so,none⟩)] w λe w'=>e=.returned (.bool (fg (bA l) s.tocu))/\dp w w':=by
 obtain⟨ao,cap,rfl,hcap,hao⟩:=aR R.1;have HR:=ae R;have HH:=ae H;have hao:=ae hao;have C1:=ae λW (hb:dp w W)=>nZ l _ s.owner hl W (R.below hb);have S:=ug w;obtain⟨T,hT⟩:=cM (fg (bA l) s.tocu);rw[hT];clear R H;refine callsIn_of_wp_marks func201 rfl kO ?_ rfl;simp only[ntmps201,Ji,o8,we,reduceAdd,reduceSub,Jj,Jk,Jl,Jm,wv,Aj];cases hs:s.snap with
 | false=>
  obtain rfl:true=T:=by rw[<-hT];unfold fg;rw[bC hs]
  clear hT
  gi_upto_region 0 with fail
  refine eh ym cm BO ?_
  go_wp2_with (refine ew λW S=>?_)
  gi_upto_region 1 with fail
  refine eh ym cm BO ?_
  go_wp2_with (first|(with_reducible refine jl 8 103 3 S 0 0 (bZ sb so) ?_)|((with_reducible refine aG 11 4 10 ?_);refine bM (v:=.bool false) (by rw[<-hs];exact(HH.o.below S.b).c2) rfl gU ?_))
  gi_wp2
  exact⟨.bool true,by simp[results,f201,go_sem],rfl,S.b⟩
 | true=>
  cases hp:cR (bA l) s.owner with
  | none=>
   rw[hp] at C1;obtain rfl:false=T:=by rw[<-hT];unfold fg;rw[hp,hs];rfl
   simp only[fV] at C1;clear hT hp
   gi_upto_region 0 with fail
   refine eh ym cm BO ?_
   go_wp2_with (refine ew λW S=>?_)
   gi_upto_region 1 with fail
   refine eh ym cm BO ?_
   go_wp2_with (first|(with_reducible refine jl 8 103 3 S 0 0 (bZ sb so) ?_)|((with_reducible refine aG 11 4 10 ?_);refine bM (v:=.bool true) (by rw[<-hs];exact(HH.o.below S.b).c2) rfl gU ?_))
   gi_upto_region 3 with fail
   refine QP ym S cm cm λW S=>?_;refine bp 0 13 (.slice ao l.length cap) ?_;refine bp 1 14 (bZ sb so) ?_;refine bp 2 15 (bZ sb so) ?_;refine bp 3 16 (bZ sb (so+3)) ?_;refine gY 4 17 (.int .u64 s.owner) rfl (bP (λw h=>by obtain⟨_,S⟩:=h;exact(HH.o.below S.b).c3) rfl bF) ?_;refine mO 5 λK hK=>?_
   go_wp2_with fail
   refine je S (C1.o _ S.b) λW S=>?_;refine gM hK ?_;refine bp 6 5 _ ?_;refine uy ?_;refine xt ?_
   gi_wp2
   exact⟨.bool false,by simp[results,f201,go_sem],rfl,S.b⟩
  | some i=>
   obtain⟨hil,x,hx,-⟩:=fy hp;have hti:=Gm hs hp hx;rw[hT] at hti;rw[hp] at C1;simp only[fV] at C1;clear hT hp;obtain⟨b,o,rfl⟩:=hao.o au;have HX:=ae (HR.o.at hx);have hi0: (i:Int)< (l.length:Int):=au;have hi1: ¬(i:Int)<0:=au
   gi_upto_region 0 with fail
   refine eh ym cm BO ?_
   go_wp2_with (first|((with_reducible refine gT 2 97 0 ?_);refine kN S (v:=.slice (s_ b o) l.length cap) rfl rfl rfl λWA S=>?_)|((with_reducible refine gT 3 103 1 ?_);refine kN S (v:=bZ sb so) rfl rfl rfl λWB S=>?_))
   gi_upto_region 1 with fail
   refine eh ym cm BO ?_
   go_wp2_with (first|(with_reducible refine jl 8 103 3 S 0 0 (bZ sb so) ?_)|((with_reducible refine aG 11 4 10 ?_);refine bM (v:=.bool true) (by rw[<-hs];exact(HH.o.below S.b).c2) rfl gU ?_))
   gi_upto_region 3 with fail
   refine QP ym S cm cm λW S=>?_;refine bp 0 13 (.slice (s_ b o) l.length cap) ?_;refine bp 1 14 (bZ sb so) ?_;refine bp 2 15 (bZ sb so) ?_;refine bp 3 16 (bZ sb (so+3)) ?_;refine gY 4 17 (.int .u64 s.owner) rfl (bP (λw h=>by obtain⟨_,S⟩:=h;exact(HH.o.below S.b).c3) rfl bF) ?_;refine mO 5 λK hK=>?_
   go_wp2_with fail
   refine(C1.o _ S.b).mono ?_;rintro e WK ⟨rfl,hb⟩;replace S:=S.below hb;clear hb;refine gM hK ?_;refine bp 6 5 _ ?_;refine uy ?_;refine xt ?_;obtain⟨px,hpx⟩:=cM x.snap;rw[hpx] at hti;cases px with
   | true=>
    obtain rfl:T=false:=hti
    gi_upto_region 4 with fail
    refine eh ym cm BO ?_
    go_wp2_with (first
   |(with_reducible refine jm 22 97 2 S 1 0 (.slice (s_ b o) l.length cap) ?_)
   |((with_reducible refine cP 26 4 25 ?_);refine cV cm ?_;refine bM (v:=.bool true) (by rw[<-hpx];exact(HX.o.below S.b).c2) rfl gU ?_))
    gi_wp2
    exact⟨.bool false,by simp[results,f201,go_sem],rfl,S.b⟩
   | false=>
    rw[bX (show ¬(false=true) by decide)] at hti;have HT:=ae hti;clear hti
    gi_upto_region 4 with fail
    refine eh ym cm BO ?_
    go_wp2_with (first
   |(with_reducible refine jm 22 97 2 S 1 0 (.slice (s_ b o) l.length cap) ?_)
   |((with_reducible refine cP 26 4 25 ?_);refine cV cm ?_;refine bM (v:=.bool false) (by rw[<-hpx];exact(HX.o.below S.b).c2) rfl gU ?_))
    gi_upto_region 6 with fail
    refine eh ym cm BO ?_
    go_wp2_with (first
   |((with_reducible refine dH 6 3 ?_);refine kI S zeroValue3 rfl rfl λWC S=>?_)
   |((with_reducible refine fE 3 6 ?_);refine nt S 0 rfl 0 (v:=.int .i64 0) qv rfl rfl rfl kX λW S=>?_))
    gi_upto_region 7 with fail
    refine QP ym S cm cm λW S=>?_;refine bp 0 28 (.slice (s_ b o) l.length cap) ?_;refine bp 1 29 (bZ sb so) ?_;refine bp 2 30 (bZ sb so) ?_;refine bp 3 31 (bZ sb so) ?_;refine gY 4 32 (.int .u64 s.id) rfl (bP (λw h=>by obtain⟨_,S⟩:=h;exact(HH.o.below S.b).c0) rfl bF) ?_;refine mO 5 λK hK=>?_
    go_wp2_with fail
    refine(xp (s_ b o) l.length cap s.id _).mono ?_;rintro e W2 ⟨rfl,hW⟩;have HB:=ae (xq hW);clear hW;have S0:=ae S;replace S:=S.below HB.o.1;refine gM hK ?_;refine uy ?_;refine xt ?_
    gi_wp2
    clear S;have S:St w none [] [⟨WK.heap.size,3,1,λ_=>.int .i64 (((0:Nat):Int))⟩,⟨WA.heap.size,103,1,λ_=>bZ sb so⟩,⟨w.heap.size,97,1,λ_=>.slice (s_ b o) l.length cap⟩] [] (λ_ _=>True) W:=S0.o.ld (k:=0) rfl (g:=λ_=>.int .i64 ((0:Nat):Int)) λi hi=>by have hi:i<1:=hi;obtain rfl:i=0:=au;rfl
    clear S0;obtain⟨hb,hbl,hbi,htl,hti,hsz⟩:=HB.o;have hbt:du w b=some 109:=ar.ty HR.o.1 rfl au;have hbs: ∀k∈ [W.heap.size,W.heap.size+1]++(Value.slice (s_ b o) l.length cap).ownBlock.toList,(W.heap.size<=k∨k<w.heap.size)/\∃t,du W2 k=some t/\fk t=false/\df t=false:=by
     intro k hk;simp only[Value.ownBlock,Vg,Aj,wv,iI,kz,tZ] at hk;rcases hk with rfl | rfl | rfl
     . exact⟨.inl (eO _),_,htl,rfl,rfl⟩
     . exact⟨.inl (le_succ _),_,hti,rfl,rfl⟩
     . exact⟨.inr (c7 hbt),_,pF (pF hbt S.b) hb,rfl,rfl⟩
    replace S:=S.Nz hb hbs;have hav:=S.x.2;have hw2:w.heap.size<=W2.heap.size:=S.fr.size;refine wpIn_rangeFunc_ownF rfl au (gf:=232) (lb:=#[bZ W.heap.size 0,bZ (W.heap.size+1) 0]) rfl kO (enters_of func232 cm rfl)
     (zQ 4 W.heap.size (W.heap.size+1) _ l s.id hl W2 (HR.o.below S.b) hbl hbi) iB.trans (iB.book λk hk=>let⟨_,h1,_⟩:=(hav k hk).2;c7 h1) (iU _ _) (λ_=>rfl)
     (λpre W'=>∃y:Nat,Hid (y=Ul l s.owner pre/\y<=pre.length)/\St w none [] [⟨WK.heap.size,3,1,λ_=>.int .i64 ((y:Nat):Int)⟩,⟨WA.heap.size,103,1,λ_=>bZ sb so⟩,⟨w.heap.size,97,1,λ_=>.slice (s_ b o) l.length cap⟩] [] (λB w=>True/\Mh ([W.heap.size,W.heap.size+1]++(Value.slice (s_ b o) l.length cap).ownBlock.toList) B w) W')
     (λ_ _ _=>False)
     (mj S.fr.size _ _ _ _ λ_ _=>lW.t.and (lW.av _)) (λ_ _ _ _ _ hs _ _=>hs)
     ⟨0,ae ⟨rfl,eO _⟩,S⟩ ?a1 ?assign ?body ?done ?stop
    case assign=>
     intro lp z W' K hK
     gi_wp2
     exact hK
    case body=>
     clear S;rintro lp pre z W0 ⟨m,hp,S⟩ hpre;replace S:=S.bS;have hml:=hp.o.2;have hm0:=ae hp.o.1;clear hp;obtain⟨y,HYZ⟩:=qI (l.get z);have hy2:l[z.val]? =some y:=by rw[j4 z.isLt,<-HYZ.o];rfl
     have HY:=ae (HR.o.at hy2);have hzl:=z.isLt;have hz: (z.val:Int)< (l.length:Int):=au;have hm6:m<=1000000:=au;clear hy2;rcases Kl (y.owner=s.owner) with he | he
     . have he1: (((y.owner:Nat):Int)==((s.owner:Nat):Int))=true:=by rw[Em];omega
       have HE:=ae he;clear he
       gi_wp2
       refine tH ym S cm cm BO λW S=>?_;refine bp 0 35 (.slice (s_ b o) l.length cap) ?_;refine bp 1 36 _ ?_;refine bp 2 37 (bZ b (o+z.val*11)) ?_;refine bp 3 38 (bZ b (o+z.val*11+3)) ?_;refine gY 4 39 (.int .u64 y.owner) rfl (bP (λw h=>by obtain⟨_,S⟩:=h;exact(HY.o.below S.b).c3) rfl bF) ?_;refine bp 5 40 (bZ sb so) ?_;refine bp 6 41 (bZ sb so) ?_;refine bp 7 42 (bZ sb (so+3)) ?_;refine gY 8 43 (.int .u64 s.owner) rfl (bP (λw h=>by obtain⟨_,S⟩:=h;exact(HH.o.below S.b).c3) rfl bF) ?_;refine bp 9 44 (.bool true) ?_;refine uy ?_
       gi_upto_region 10 with fail
       refine eh ym cm BO ?_
       go_wp2_with (first
   |(with_reducible refine jl 45 3 6 S 0 0 (.int .i64 m) ?_)
   |((with_reducible refine aS 3 6 46 ?_);refine nt S 0 rfl 0 (v:=.int .i64 ((m+1:Nat):Int)) qv rfl rfl rfl kX λW S=>?_))
       gi_wp2
       have hk:=S.kept (dz.still (fm _));refine⟨hk.1,hk.2.1,m+1,ae ⟨by rw[Ka,<-hm0.o,HYZ.o,bC HE.o],by rw[kh];exact succ_le_succ hml⟩,?_⟩;exact(hk.2.2.ld (k:=0) rfl (g:=λ_=>.int .i64 ((m+1:Nat):Int)) λi hi=>by have hi:i<1:=hi;obtain rfl:i=0:=au;rfl).vP (λ_ _ h=>h.2) (fm _).fs
     . have he1: (((y.owner:Nat):Int)==((s.owner:Nat):Int))=false:=by rw[k'];omega
       have HE:=ae he;clear he
       gi_wp2
       refine tH ym S cm cm BO λW S=>?_;refine bp 0 35 (.slice (s_ b o) l.length cap) ?_;refine bp 1 36 _ ?_;refine bp 2 37 (bZ b (o+z.val*11)) ?_;refine bp 3 38 (bZ b (o+z.val*11+3)) ?_;refine gY 4 39 (.int .u64 y.owner) rfl (bP (λw h=>by obtain⟨_,S⟩:=h;exact(HY.o.below S.b).c3) rfl bF) ?_;refine bp 5 40 (bZ sb so) ?_;refine bp 6 41 (bZ sb so) ?_;refine bp 7 42 (bZ sb (so+3)) ?_;refine gY 8 43 (.int .u64 s.owner) rfl (bP (λw h=>by obtain⟨_,S⟩:=h;exact(HH.o.below S.b).c3) rfl bF) ?_;refine bp 9 44 (.bool false) ?_;refine uy ?_
       gi_wp2
       have hk:=S.kept (dz.still (fm _));refine⟨hk.1,hk.2.1,m,ae ⟨by rw[Ka,<-hm0.o,HYZ.o,bX HE.o],by rw[kh];exact le_succ_of_le hml⟩,hk.2.2⟩
    case done=>
     clear S;rintro D ys W0 hD rfl ⟨m,hp,S⟩ hK;have hTm:T=decide (m=1):=by rw[HT.o,<-hp.o.1]
     have HTM:=ae hTm;clear hTm hp
     gi_upto_region 11 with fail
     gi_upto_region 11 with fail
     refine eh ym cm BO ?_
     go_wp2_with (with_reducible refine jl 47 3 6 S 0 0 (.int .i64 m) ?_)
     gi_wp2
     refine xr S (lW.t.and (lW.av _)) au hK λW' S=>?_;have e9: (((m:Nat):Int)==1)=T:=by rw[HTM.o];by_cases h:m=1 <;> simp[h];omega
     exact⟨.bool T,by rw[<-e9];simp[results,f201,go_sem],rfl,S.b⟩
    case stop=>
     rintro _ _ _ _ _ _ h _;exact h.elim
theorem Gn (l:List aZ)(v:bh)(hl:l.length<=1000000)(s:aZ)(sb so:Nat)(w:aD)(R:cQ w v l)(H:kQ w sb so s):
 yr 201 #[v,.pointer (some ⟨sb,so,none⟩)] w (.bool (fg (bA l) s.tocu)):=z7.1 (IV l v hl s sb so w R H)
def gi (l:List cu) (s:cu):Bool:=
 if s.prev=0 then s.dead.all λq=>decide (q.2.1<=0) else
 match cR l s.prev with
 | none=>false
 | some i=>(di l i).snap&& !(s.snap&&decide (s.ay<=(di l i).ay))&&s.dead.all λq=>decide (q.2.1<=(di l i).ay)
theorem Gp (l:List aZ)(v:bh)(hl:l.length<=1000000)(s:aZ)(hdl:s.dead.length<=1000000)(sb so:Nat)(w:aD)(R:cQ w v l)(H:kQ w sb so s)(hd:rV w s):
 yr 200 #[v,.pointer (some ⟨sb,so,none⟩)] w (.bool (gi (bA l) s.tocu)):=by
 obtain⟨ao,cap,rfl,hcap,hao⟩:=aR R.1;have HR:=ae R;have HH:=ae H;have hao:=ae hao;have C1:=ae λW (hb:dp w W)=>nZ l _ s.prev hl W (R.below hb);have S:=ug w;obtain⟨T,hT⟩:=cM (gi (bA l) s.tocu);rw[hT];have hd2:=hd;unfold rV at hd2;obtain⟨da,dc,hdv,hdc,hda⟩:=aR hd2;rw[hdv] at hd2;have HD:=ae hd2;have HDV:=ae hdv;have hda:=ae hda;clear R H hd hdv hd2;go_enter func200,ntmps200;by_cases hpv:s.prev=0
 . have hti:T=s.dead.all λq=>decide (q.2.1<=0):=by rw[<-hT];unfold gi;rw[bC hpv]
   have HT:=ae hti;have HPV:=ae hpv;clear hT hti hpv
   go_upto_region 10 with(first|((with_reducible refine aG 12 82 11 ?_);refine bM ((HH.o.below S.b).c4) rfl bF ?_;rw[HPV.o])|((with_reducible refine aG 50 107 49 ?_);refine bM ((HH.o.below S.b).Zo) rfl gx ?_;rw[HDV.o]))
   have S:=ae S
   go_loopw [52] (λi wr=>∃k:Nat,k<=s.dead.length/\i=.int .i64 k/\Hid ((∀j (h:j<s.dead.length),j<k->(s.dead[j]).2.1<=0)/\St w none [] [] [] (λ_ _=>True) wr)) (λi _=>s.dead.length - (intOf i).toNat)
   case atStart=>exact⟨0,au,rfl,ae ⟨λj _ h=>absurd h (ES _),S.o⟩⟩
   case round=>
    clear S;obtain⟨k,hk,rfl,hS⟩:=hrel;by_cases hlt:k<s.dead.length
    . obtain⟨b9,o9,hda⟩:=hda.o au;obtain⟨q,hq⟩:=cM (s.dead[k]);obtain⟨A,hA⟩:=gq (ah 3 (aN q));have hsub:=ae (fF s.dead hlt (A:=A) (by rw[hq];exact hA));have HA:=ae hA;have HQ:=ae hq;have S:=hS.o.2;have HP:=ae hS.o.1;clear hS hA hq;have hkl: (k:Int)< (s.dead.length:Int):=au;subst hda;by_cases hqf:q.2.1<=0
      . have hqi: ¬(0:Int)< (q.2.1:Int):=au
        go_wp2_with (first
   |(with_reducible refine jl 57 82 56 S 0 1 (.int .u64 q.2.1) ?_)
   |((with_reducible refine pP ?_);refine Md (HD.o.below S.b) hlt (DW HA) hsub.o ?_)
   |refine ew λW S=>?_)
        go_roundw
        case rel=>exact⟨k+1,au,by go_num,ae ⟨λj h hj=>by
         rcases Ml.1 hj with h1 | rfl
         . exact HP.o j h h1
         . rw[HQ.o];exact hqf,S.pop⟩⟩
        case measure=>exact uO
      . have hqi: (0:Int)< (q.2.1:Int):=au;have hno:T=false:=by
         rw[HT.o];exact Ve.2 λh=>by
          have:=Ak.1 h q (by rw[<-HQ.o];exact tW hlt);exact hqf (by simpa using this)
        have HNO:=ae hno;clear hno hqf
        go_wp2_with (first
   |(with_reducible refine jl 57 82 56 S 0 1 (.int .u64 q.2.1) ?_)
   |((with_reducible refine pP ?_);refine Md (HD.o.below S.b) hlt (DW HA) hsub.o ?_)
   |refine ew λW S=>?_)
        go_ret;rw[HNO.o];exact⟨rfl,S.b⟩
    . obtain rfl:k=s.dead.length:=au;have S:=hS.o.2;have hyes:T=true:=by
       rw[HT.o];exact Ak.2 λq hq=>by
        obtain⟨j,hj,rfl⟩:=Jo.1 hq;simpa using hS.o.1 j hj hj
      have HYES:=ae hyes;clear hS hyes;go_wp2;go_ret;rw[HYES.o];exact⟨rfl,S.b⟩
 . have hpz: (((s.prev:Nat):Int) != 0)=true:=by rw[lh];omega
   cases hp:cR (bA l) s.prev with
   | none=>
    rw[hp] at C1;simp only[fV] at C1;obtain rfl:false=T:=by rw[<-hT];unfold gi;rw[bX hpv,hp]
    clear hT hp hpv
    go_wp2_with (first
   |(with_reducible first|refine jo 12 82 11 ((HH.o.below S.b).c4) ?_|refine jo 18 82 17 ((HH.o.below S.b).c4) ?_)
   |(go_at_call 103;refine je S (C1.o _ S.b) λW S=>?_))
    go_ret;exact⟨rfl,S.b⟩
   | some i=>
    obtain⟨hil,x,hx,-⟩:=fy hp;have hti:T=(x.snap&& !(s.snap&&decide (s.ay<=x.ay))&&s.dead.all λq=>decide (q.2.1<=x.ay)):=by
     rw[<-hT];unfold gi;rw[bX hpv,hp];simp only;rw[fW hx]
    rw[hp] at C1;simp only[fV] at C1;clear hT hp hpv;obtain⟨b,o,rfl⟩:=hao.o au;have HX:=ae (HR.o.at hx);have hi0: (i:Int)< (l.length:Int):=au;have hi1: ¬(i:Int)<0:=au;obtain⟨xs,hxs⟩:=cM x.snap;obtain⟨ss,hss⟩:=cM s.snap;rw[hxs,hss] at hti;cases xs with
    | false=>
     obtain rfl:T=false:=by rw[hti];rfl
     clear hti
     go_wp2_with (first
   |(with_reducible first|refine jo 12 82 11 ((HH.o.below S.b).c4) ?_|refine jo 18 82 17 ((HH.o.below S.b).c4) ?_)
   |(go_at_call 103;refine je S (C1.o _ S.b) λW S=>?_)
   |((with_reducible refine cP 27 4 26 ?_);refine cV cm ?_;refine bM (v:=.bool false) (by rw[<-hxs];exact(HX.o.below S.b).c2) rfl gU ?_))
     go_ret;exact⟨rfl,S.b⟩
    | true=>
     obtain⟨fl,hfl⟩:=cM x.ay;have HFL:=ae hfl;rw[hfl] at hti;clear hfl;cases ss with
     | false=>
      have HT:=ae (show T=s.dead.all λq=>decide (q.2.1<=fl) by rw[hti];simp);clear hti
      go_upto_region 10 with(first
   |(with_reducible first|refine jo 12 82 11 ((HH.o.below S.b).c4) ?_|refine jo 18 82 17 ((HH.o.below S.b).c4) ?_)
   |(go_at_call 103;refine je S (C1.o _ S.b) λW S=>?_)
   |((with_reducible refine cP 27 4 26 ?_);refine cV cm ?_;refine bM (v:=.bool true) (by rw[<-hxs];exact(HX.o.below S.b).c2) rfl gU ?_)
   |((with_reducible refine aG 34 82 33 ?_);refine bM ((HX.o.below S.b).c5) rfl bF ?_;rw[HFL.o])
   |((with_reducible refine aG 38 4 37 ?_);refine bM (v:=.bool false) (by rw[<-hss];exact(HH.o.below S.b).c2) rfl gU ?_)
   |((with_reducible refine aG 50 107 49 ?_);refine bM ((HH.o.below S.b).Zo) rfl gx ?_;rw[HDV.o]))
      have S:=ae S
      go_loopw [52] (λi wr=>∃k:Nat,k<=s.dead.length/\i=.int .i64 k/\Hid ((∀j (h:j<s.dead.length),j<k->(s.dead[j]).2.1<=fl)/\St w none [] [] [] (λ_ _=>True) wr)) (λi _=>s.dead.length - (intOf i).toNat)
      case atStart=>exact⟨0,au,rfl,ae ⟨λj _ h=>absurd h (ES _),S.o⟩⟩
      case round=>
       clear S;obtain⟨k,hk,rfl,hS⟩:=hrel;by_cases hlt:k<s.dead.length
       . obtain⟨b9,o9,hda⟩:=hda.o au;obtain⟨q,hq⟩:=cM (s.dead[k]);obtain⟨A,hA⟩:=gq (ah 3 (aN q));have hsub:=ae (fF s.dead hlt (A:=A) (by rw[hq];exact hA));have HA:=ae hA;have HQ:=ae hq;have S:=hS.o.2;have HP:=ae hS.o.1;clear hS hA hq;have hkl: (k:Int)< (s.dead.length:Int):=au;subst hda;by_cases hqf:q.2.1<=fl
         . have hqi: ¬(fl:Int)< (q.2.1:Int):=au
           go_wp2_with (first
   |(with_reducible refine jl 57 82 56 S 0 1 (.int .u64 q.2.1) ?_)
   |((with_reducible refine pP ?_);refine Md (HD.o.below S.b) hlt (DW HA) hsub.o ?_)
   |refine ew λW S=>?_)
           go_roundw
           case rel=>exact⟨k+1,au,by go_num,ae ⟨λj h hj=>by
            rcases Ml.1 hj with h1 | rfl
            . exact HP.o j h h1
            . rw[HQ.o];exact hqf,S.pop⟩⟩
           case measure=>exact uO
         . have hqi: (fl:Int)< (q.2.1:Int):=au;have hno:T=false:=by
            rw[HT.o];exact Ve.2 λh=>by
             have:=Ak.1 h q (by rw[<-HQ.o];exact tW hlt);exact hqf (by simpa using this)
           have HNO:=ae hno;clear hno hqf
           go_wp2_with (first
   |(with_reducible refine jl 57 82 56 S 0 1 (.int .u64 q.2.1) ?_)
   |((with_reducible refine pP ?_);refine Md (HD.o.below S.b) hlt (DW HA) hsub.o ?_)
   |refine ew λW S=>?_)
           go_ret;rw[HNO.o];exact⟨rfl,S.b⟩
       . obtain rfl:k=s.dead.length:=au;have S:=hS.o.2;have hyes:T=true:=by
          rw[HT.o];exact Ak.2 λq hq=>by
           obtain⟨j,hj,rfl⟩:=Jo.1 hq;simpa using hS.o.1 j hj hj
         have HYES:=ae hyes;clear hS hyes;go_wp2;go_ret;rw[HYES.o];exact⟨rfl,S.b⟩
     | true=>
      by_cases hge:s.ay<=fl
      . have hge1: (s.ay:Int)<=(fl:Int):=au;obtain rfl:T=false:=by rw[hti];simp[hge]
        clear hti hge
        go_wp2_with (first
   |(with_reducible first|refine jo 12 82 11 ((HH.o.below S.b).c4) ?_|refine jo 18 82 17 ((HH.o.below S.b).c4) ?_|refine jg 44 82 43 ((HH.o.below S.b).c5) ?_)
   |(go_at_call 103;refine je S (C1.o _ S.b) λW S=>?_)
   |((with_reducible refine cP 27 4 26 ?_);refine cV cm ?_;refine bM (v:=.bool true) (by rw[<-hxs];exact(HX.o.below S.b).c2) rfl gU ?_)
   |((with_reducible refine aG 34 82 33 ?_);refine bM ((HX.o.below S.b).c5) rfl bF ?_;rw[HFL.o])
   |((with_reducible refine aG 38 4 37 ?_);refine bM (v:=.bool true) (by rw[<-hss];exact(HH.o.below S.b).c2) rfl gU ?_))
        go_ret;exact⟨rfl,S.b⟩
      . have hge1: ¬(s.ay:Int)<=(fl:Int):=au;have HT:=ae (show T=s.dead.all λq=>decide (q.2.1<=fl) by rw[hti];simp[hge]);clear hti hge
        go_upto_region 10 with(first
   |(with_reducible first|refine jo 12 82 11 ((HH.o.below S.b).c4) ?_|refine jo 18 82 17 ((HH.o.below S.b).c4) ?_|refine jg 44 82 43 ((HH.o.below S.b).c5) ?_)
   |(go_at_call 103;refine je S (C1.o _ S.b) λW S=>?_)
   |((with_reducible refine cP 27 4 26 ?_);refine cV cm ?_;refine bM (v:=.bool true) (by rw[<-hxs];exact(HX.o.below S.b).c2) rfl gU ?_)
   |((with_reducible refine aG 34 82 33 ?_);refine bM ((HX.o.below S.b).c5) rfl bF ?_;rw[HFL.o])
   |((with_reducible refine aG 38 4 37 ?_);refine bM (v:=.bool true) (by rw[<-hss];exact(HH.o.below S.b).c2) rfl gU ?_)
   |((with_reducible refine aG 50 107 49 ?_);refine bM ((HH.o.below S.b).Zo) rfl gx ?_;rw[HDV.o]))
        have S:=ae S
        go_loopw [52] (λi wr=>∃k:Nat,k<=s.dead.length/\i=.int .i64 k/\Hid ((∀j (h:j<s.dead.length),j<k->(s.dead[j]).2.1<=fl)/\St w none [] [] [] (λ_ _=>True) wr)) (λi _=>s.dead.length - (intOf i).toNat)
        case atStart=>exact⟨0,au,rfl,ae ⟨λj _ h=>absurd h (ES _),S.o⟩⟩
        case round=>
         clear S;obtain⟨k,hk,rfl,hS⟩:=hrel;by_cases hlt:k<s.dead.length
         . obtain⟨b9,o9,hda⟩:=hda.o au;obtain⟨q,hq⟩:=cM (s.dead[k]);obtain⟨A,hA⟩:=gq (ah 3 (aN q));have hsub:=ae (fF s.dead hlt (A:=A) (by rw[hq];exact hA));have HA:=ae hA;have HQ:=ae hq;have S:=hS.o.2;have HP:=ae hS.o.1;clear hS hA hq;have hkl: (k:Int)< (s.dead.length:Int):=au;subst hda;by_cases hqf:q.2.1<=fl
           . have hqi: ¬(fl:Int)< (q.2.1:Int):=au
             go_wp2_with (first
   |(with_reducible refine jl 57 82 56 S 0 1 (.int .u64 q.2.1) ?_)
   |((with_reducible refine pP ?_);refine Md (HD.o.below S.b) hlt (DW HA) hsub.o ?_)
   |refine ew λW S=>?_)
             go_roundw
             case rel=>exact⟨k+1,au,by go_num,ae ⟨λj h hj=>by
              rcases Ml.1 hj with h1 | rfl
              . exact HP.o j h h1
              . rw[HQ.o];exact hqf,S.pop⟩⟩
             case measure=>exact uO
           . have hqi: (fl:Int)< (q.2.1:Int):=au;have hno:T=false:=by
              rw[HT.o];exact Ve.2 λh=>by
               have:=Ak.1 h q (by rw[<-HQ.o];exact tW hlt);exact hqf (by simpa using this)
             have HNO:=ae hno;clear hno hqf
             go_wp2_with (first
   |(with_reducible refine jl 57 82 56 S 0 1 (.int .u64 q.2.1) ?_)
   |((with_reducible refine pP ?_);refine Md (HD.o.below S.b) hlt (DW HA) hsub.o ?_)
   |refine ew λW S=>?_)
             go_ret;rw[HNO.o];exact⟨rfl,S.b⟩
         . obtain rfl:k=s.dead.length:=au;have S:=hS.o.2;have hyes:T=true:=by
            rw[HT.o];exact Ak.2 λq hq=>by
             obtain⟨j,hj,rfl⟩:=Jo.1 hq;simpa using hS.o.1 j hj hj
           have HYES:=ae hyes;clear hS hyes;go_wp2;go_ret;rw[HYES.o];exact⟨rfl,S.b⟩
section
open Go.Maps (Keyed IsMap)
theorem abu:laidOutB prog=true:=cm
theorem Bp:Keyed prog 258:=Keyed.of_law (deep_law_laid abu (m:=3) au (lK cm) cm pB)
theorem aco (d:Nat)(h:n<18446744073709551616):prog.keyLits (d+1) 82 [.int .u64 n]=some [.int .u64 n]:=by
 simp_all[Program.keyLits,wf_u64]
theorem kl9 (d:Nat){s:lf}(h:s.size<=maxLen):prog.keyLits (d+1) 9 [.string s]=some [.string s.data.toList]:=by
 simp_all[Program.keyLits]
theorem abX:prog.cellsOf 258=2:=cm
theorem c82:prog.cellsOf 82=1:=cm
theorem c9:prog.cellsOf 9=1:=cm
theorem tsz: ∃d,prog.types.size=d+1:=by simp_all
theorem abv:prog.keyType 258=true:=cm
theorem aaj (c:Nat×lf)(h1:c.1<18446744073709551616)(h2:c.2.size<=maxLen): ∃kl,keyOf prog 258 (.agg (ah 2 (nB c)))=some kl:=by
 have e1:prog.keyLits (prog.types.size+1) 258 [.int .u64 c.1,.string c.2]=some ([.int .u64 c.1]++[.string c.2.data.toList]):=by
  obtain⟨d,hd⟩:=tsz;rw[hd];unfold Program.keyLits
  simp_all[abX,c82,c9,aco,kl9]
 have ef: (Value.agg (ah 2 (nB c))).formed prog 258=true:=by
  rfl
 unfold keyOf;rw[underlying258];simp only[abv,ef,Bool.and_self,wz];rw[vO];show ∃kl,(prog.keyLits (prog.types.size+1) 258 [.int .u64 c.1,.string c.2]).map _=some kl
 simp_all
def Um (b n:Nat) (D:DataW Unit):aK->aD->Prop:=λB w=>w.ownsMap prog 258 (plainElem prog 3) b n D/\b∉B
theorem Bq {D:DataW Unit}(h:w.ownsMap prog 258 (plainElem prog 3) b n D)(hb:w'.heap[b]? =w.heap[b]?):w'.ownsMap prog 258 (plainElem prog 3) b n D:=by
 obtain⟨es,clock,h1,h2⟩:=h;exact⟨es,clock,hb.trans h1,h2⟩
theorem Kb (b n:Nat)(D:DataW Unit):gX none (Um b n D) where
 below:=λh hb=>⟨Bq h.1 (hb.block b h.1.lt),h.2⟩
 add:=λh hb=>⟨h.1,λhm=>by
  rcases iI.1 hm with e | hm
  . have:=h.1.lt;omega
  . exact h.2 hm⟩
 mono:=λh hs=>⟨h.1,λhm=>h.2 (hs _ hm)⟩
 but:=fun {B w w' c t} h hc hb _ _ _=>⟨Bq h.1 (hb.block b h.1.lt λe=>h.2 (e ▸ hc)),h.2⟩
 dev:=λ_ e=>by cases e
section
variable {v:Nat}
variable {l:aK}
theorem Un (dst:Nat)(ty:dD)(h:wpList prog ops Q (⟨some dst,.makeMap ty none,t2,p,af,none⟩::rest) a w):wpList prog ops Q (⟨some dst,.makeMap ty none,t2,p,af,none⟩::rest) a w:=h
theorem Of (dst:Nat)(ty:dD)(m x:Nat)(h:wpList prog ops Q (⟨some dst,.lookup ty (.tmp m) (.tmp x) true,t2,p,af,none⟩::rest) a w):wpList prog ops Q (⟨some dst,.lookup ty (.tmp m) (.tmp x) true,t2,p,af,none⟩::rest) a w:=h
theorem Xd (ty:dD)(m x v:Nat)(h:wpList prog ops Q (⟨none,.mapUpdate ty (.tmp m) (.tmp x) (.tmp v),t2,p,af,none⟩::rest) a w):wpList prog ops Q (⟨none,.mapUpdate ty (.tmp m) (.tmp x) (.tmp v),t2,p,af,none⟩::rest) a w:=h
theorem mkMap (S:St w0 none l L O (λ_ _=>True) w)(h: ∀W,St w0 none l L O (Um w.heap.size 0 (.map [])) W->wpList prog ops Q rest (a.put (some dst) (.map (some w.heap.size))) W):
 wpList prog ops Q (⟨some dst,.makeMap ty none,t2,p,af,none⟩::rest) a w:=by
 refine sD rfl λK hK=>?_;unfold Oper.wp;simp only[execOp,py,wB,Result.andThen,run_makeMap];refine hK _ _ (h _ ?_);have hb:dp w (w.alloc (.map #[] 0)):=(iU _ _).alloc (eO _) _;have S2:=S.below hb;exact⟨S2.fr,S2.row,S2.own,S2.lo,S2.nd,⟨World.ownsMap_made w prog 258 _,λhm=>Al _ (S.lt _ hm)⟩,Kb _ _ _⟩
theorem Sb {D:DataW Unit}(S:St w0 none l L O (Um b n D) w)(hm:a.eval (.tmp m)=.map (some b))(hx:a.eval (.tmp x)=key)(hk:keyOf prog 258 key=some kl)(h: ∀c:Int,wpList prog ops Q rest (a.put (some dst) (.tuple #[.int .i64 c,.bool (Maps.has D kl)])) w):
 wpList prog ops Q (⟨some dst,.lookup 290 (.tmp m) (.tmp x) true,t2,p,af,none⟩::rest) a w:=
 wpList_lookup_own_ok_int w rfl (.tmp m) (.tmp x) 290 rfl 258 3 .i64 Bp underlying290 underlying3 cm b n D hm S.x.1 key kl hx hk λc _ _=>h c
theorem aak {D:DataW Unit}(S:St w0 none l L O (Um b n D) w)(h0:w0.heap.size<=b)(hn:n<=1000000){i:Int}(hi: (Lit.int .i64 i).wf=true)(hm:a.eval (.tmp m)=.map (some b))(hx:a.eval (.tmp x)=key)(hv:a.eval (.tmp v)=.int .i64 i)(hk:keyOf prog 258 key=some kl)(h: ∀W,St w0 none l L O (Um b (n+1) (D.put kl (.lit (.int .i64 i)))) W->wpList prog ops Q rest (a.put none undef) W):
 wpList prog ops Q (⟨none,.mapUpdate 290 (.tmp m) (.tmp x) (.tmp v),t2,p,af,none⟩::rest) a w:=by
 refine wpList_mapUpdate_own w rfl (.tmp m) (.tmp x) (.tmp v) 290 rfl 258 3 Bp underlying290 (plainElem prog 3) b n D hm S.x.1 (by grind[maxLen]) key _ kl hx hv hk _ [] (plainElem_int underlying3 hi) λW ho hg=>h W ?_;have hb:=vm hg;have ht:du w b=none:=by
  obtain⟨es,clock,h1,_⟩:=S.x.1
  grind[du]
 have S2:=(S.vP (X':=λ_ _=>True) (λ_ _ _=>kO) dz).obj hb ht h0 lW.t;exact⟨S2.fr,S2.row,S2.own,S2.lo,S2.nd,⟨ho,S.x.2⟩,Kb _ _ _⟩
end
theorem Xe {c':Nat×lf}(h:Value.agg (ah 2 (nB c))=.agg (ah 2 (nB c'))):c=c':=by
 rw[vO,vO] at h
 grind
noncomputable def Br (seen:List (Nat×lf)) (c:Nat×lf):Bool:=@decide (c∈seen) (Classical.propDecidable _)
theorem yi {seen:List (Nat×lf)} {c:Nat×lf}:Br seen c=true↔c∈seen:=by simp_all[Br]
theorem QQ (seen:List (Nat×lf)) (d c:Nat×lf) (h:c≠d):Br (seen++[d]) c=Br seen c:=by
 rw[DX,yi,yi];simp[h]
def Gq (D:DataW Unit) (seen:List (Nat×lf)):Prop:=IsMap D/\∀c kl,keyOf prog 258 (.agg (ah 2 (nB c)))=some kl->Maps.has D kl=Br seen c
theorem Gq.nil:Gq (.map []) []:=⟨Maps.isMap_empty,λc _ _=>(Ve.2 λh=>by grind[yi]).symm⟩
theorem Gq.put {D:DataW Unit}(h:Gq D seen)(hk:keyOf prog 258 (.agg (ah 2 (nB c)))=some kl)(d:DataW Unit):Gq (D.put kl d) (seen++[c]):=by
 refine⟨h.1.put _ _,λc' kl' hk'=>?_⟩;by_cases e:kl'=kl
 . subst e;have hc:=Xe (Bp.inj hk' hk);subst hc;rw[Maps.has_put_same h.1 (Bp.key hk)]
   grind[yi]
 . rw[Maps.has_put_other e,h.2 c' kl' hk']
   grind[QQ]
noncomputable def l9 (next:Nat):Nat->List (Nat×lf)->List cu->Bool
 | _,_,[]=>true
 | last,seen,x::r=>eS x&&decide (last<x.id)&&decide (x.id<next)&& !Br seen (j7 x)&&l9 next x.id (seen++[j7 x]) r
noncomputable def mM (next:Nat) (l:List cu):Bool:=
 if 281474976710655<next∨32<l.length then false else
 l9 next 0 [] l&&l.all λx=>gi l x&&fg l x
theorem IW {s:cu}(h:eS s=true):s.name.size<=maxLen:=by
 unfold eS at h;simp only[Jh] at h;have h1:=h.1.1.1.2;unfold cq at h1;simp only[Jh,yy] at h1
 grind[maxLen]
theorem Gr {s:cu}(h:eS s=true):s.owner<=281474976710655:=by
 simp_all[eS]
end
theorem QR {x:cu}(hr:eS x=true): ∃kl,keyOf prog 258 (.agg (ah 2 (nB (j7 x))))=some kl:=by
 have ho:=Gr hr;have hn:=IW hr;refine aaj _ ?_ ?_
 . grind[j7]
 grind[j7]
theorem QS {next la:Nat}{l:List aZ}{x:aZ}(hx:l[k]? =some x):l9 next la seen ((bA l).drop k)=(eS x.tocu&&decide (la<x.id)&&decide (x.id<next)&& !Br seen (j7 x.tocu)&&l9 next x.id (seen++[j7 x.tocu]) ((bA l).drop (k+1))):=by
 grind[bA,drop_eq_getElem?_toList_append,l9]
theorem Lv (next:Nat)(l:List aZ)(v:bh)(hd: ∀x∈l,x.dead.length<=1000000)(hl:l.length<=1000000)(w:aD)(R:cQ w v l):
 yr 151 #[.int .u64 next,v] w (.bool (mM next (bA l))):=by
 obtain⟨ao,cap,rfl,hcap,hao⟩:=aR R.1;have HR:=ae R;have hao:=ae hao;have hl2: (bA l).length=l.length:=by unfold bA;rw[pr]
 obtain⟨T,hT⟩:=cM (mM next (bA l));rw[hT];have HDL:=ae hd;have S:=ug w;clear R hd;go_enter func151,ntmps151;by_cases hn:281474976710655<next
 . obtain rfl:T=false:=by rw[<-hT];unfold mM;rw[bC (.inl hn)]
   have hn1: (281474976710655:Int)< (next:Int):=au;clear hT hl2;go_wp2;go_ret;exact⟨rfl,S.b⟩
 have hn1: ¬(281474976710655:Int)< (next:Int):=au;by_cases hn2:32<l.length
 . obtain rfl:T=false:=by rw[<-hT];unfold mM;rw[bC (.inr (by rw[hl2];exact hn2))]
   have hn3: (32:Int)< (l.length:Int):=au;clear hT hl2;go_wp2;go_ret;exact⟨rfl,S.b⟩
 have hn3: ¬(32:Int)< (l.length:Int):=au;have hti:T=(l9 next 0 [] (bA l)&& (bA l).all λx=>gi (bA l) x&&fg (bA l) x):=by
  rw[<-hT];unfold mM;rw[bX (by rw[hl2];omega)]
 have HT:=ae hti;clear hti hT hl2 hn
 go_upto_region 6 with((with_reducible refine Un 20 290 ?_);refine mkMap S λW S=>?_)
 go_loopw [6,23] (λla i wr=>∃(k m:Nat) (seen:List (Nat×lf)) (D:DataW Unit),k<=l.length/\i=.int .i64 k/\la=.int .u64 m/\Hid (Gq D seen/\l9 next 0 [] (bA l)=l9 next m seen ((bA l).drop k)/\St w none [] [] [] (Um w.heap.size k D) wr)) (λ_ i _=>l.length - (intOf i).toNat)
 case atStart=>exact⟨0,0,[],.map [],au,rfl,rfl,ae ⟨Gq.nil,rfl,S⟩⟩
 case round=>
  clear S;obtain⟨k,m,seen,D,hk,rfl,rfl,hS⟩:=hrel;by_cases hlt:k<l.length
  . obtain⟨b,o,rfl⟩:=hao.o au;obtain⟨x,hx⟩: ∃x,l[k]? =some x:=⟨_,j4 hlt⟩;have S:=hS.o.2.2;have HSD:=ae hS.o.1;have hfg:=hS.o.2.1;rw[QS hx] at hfg;have HFG:=ae hfg;have HX:=ae (HR.o.at hx);have hkl: (k:Int)< (l.length:Int):=au;clear hS hfg;obtain⟨A,hA⟩:=gq (ah 11 (dy x));have hxg:l[k]=x:=by grind
    have hsub:=ae (iN l hlt (A:=A) (by rw[hxg];exact hA));have HA:=ae hA;have hmem:x∈l:=nf hx;obtain⟨sr,hsr⟩:=cM (eS x.tocu);have C1:=ae λW (hb:dp w W)=>AT x A hA (HDL.o x hmem) W ((HR.o.below hb).2 x hmem);rw[hsr] at C1;have C2:=ae λW (hb:dp w W)=>FV b (o+k*11) x W (HX.o.below hb);clear hx hxg hA hmem;cases sr with
    | false=>
     have HNO:=ae (show T=false by rw[HT.o,HFG.o,hsr];rfl)
     go_wp2_with (first
   |((with_reducible refine pP ?_);refine Md (HR.o.below S.b).1 hlt (DW HA) hsub.o ?_)
   |(go_at_call 198;refine je S (C1.o _ S.b) λW S=>?_))
     go_ret;rw[HNO.o];exact⟨rfl,S.b⟩
    | true=>
     have HSR:=ae hsr;by_cases h1:m<x.id
     case neg=>
      have h1i:decide (x.id<=m)=true:=ly au;have HNO:=ae (show T=false by rw[HT.o,HFG.o,iE h1];simp);clear h1 hsr
      go_wp2_with (first
   |(with_reducible refine jg 38 82 37 ((HX.o.below S.b).c0) ?_)
   |((with_reducible refine pP ?_);refine Md (HR.o.below S.b).1 hlt (DW HA) hsub.o ?_)
   |(go_at_call 198;refine je S (C1.o _ S.b) λW S=>?_))
      go_ret;rw[HNO.o];exact⟨rfl,S.b⟩
     have h1i:decide (x.id<=m)=false:=iE au;by_cases h2:x.id<next
     case neg=>
      have h2i:decide (next<=x.id)=true:=ly au;have HNO:=ae (show T=false by rw[HT.o,HFG.o,iE h2];simp);clear h1 h2 hsr
      go_wp2_with (first
   |(with_reducible first|refine jg 38 82 37 ((HX.o.below S.b).c0) ?_|refine jg 46 82 45 ((HX.o.below S.b).c0) ?_)
   |((with_reducible refine pP ?_);refine Md (HR.o.below S.b).1 hlt (DW HA) hsub.o ?_)
   |(go_at_call 198;refine je S (C1.o _ S.b) λW S=>?_))
      go_ret;rw[HNO.o];exact⟨rfl,S.b⟩
     have h2i:decide (next<=x.id)=false:=iE au;obtain⟨kl,hkl2⟩:=QR hsr;obtain⟨c0,hc0⟩:=cM (j7 x.tocu);have HFG:=ae (show l9 next 0 [] (bA l)=(!Br seen c0&&l9 next x.id (seen++[c0]) ((bA l).drop (k+1))) by rw[HFG.o,HSR.o,ly h1,ly h2,hc0];rfl);rw[hc0] at hkl2 C2;have hsn:=HSD.o.2 c0 kl hkl2;obtain⟨A2,HA2⟩:=BU (ah 2 (nB c0));rw[<-HA2.o] at hkl2;have HKL2:=ae hkl2;clear h1 h2 hsr hkl2;obtain⟨sn,hsn2⟩:=cM (Br seen c0);rw[hsn2] at hsn;cases sn with
     | true=>
      have HNO:=ae (show T=false by rw[HT.o,HFG.o,hsn2];rfl);clear hsn2
      go_wp2_with (first
   |(with_reducible first|refine jg 38 82 37 ((HX.o.below S.b).c0) ?_|refine jg 46 82 45 ((HX.o.below S.b).c0) ?_|refine jo 53 82 52 ((HX.o.below S.b).c0) ?_)
   |((with_reducible refine pP ?_);refine Md (HR.o.below S.b).1 hlt (DW HA) hsub.o ?_)
   |(go_at_call 198;refine je S (C1.o _ S.b) λW S=>?_)
   |(go_at_call 199;refine je S (C2.o _ S.b) λW S=>?_;rw[<-HA2.o])
   |((with_reducible refine Of 59 290 57 58 ?_);refine Sb S rfl rfl HKL2.o ?_;intro c)
   |refine fN ?_
   |refine ew λW S=>?_)
      go_ret;rw[HNO.o];exact⟨rfl,S.b⟩
     | false=>
      have HFG:=ae (show l9 next 0 [] (bA l)=l9 next x.id (seen++[c0]) ((bA l).drop (k+1)) by rw[HFG.o,hsn2];rfl);have HWF:=ae (wf_i64 (x:=k) au);clear hsn2
      go_wp2_with (first
   |(with_reducible first|refine jg 38 82 37 ((HX.o.below S.b).c0) ?_|refine jg 46 82 45 ((HX.o.below S.b).c0) ?_|refine jo 53 82 52 ((HX.o.below S.b).c0) ?_)
   |((with_reducible refine pP ?_);refine Md (HR.o.below S.b).1 hlt (DW HA) hsub.o ?_)
   |(go_at_call 198;refine je S (C1.o _ S.b) λW S=>?_)
   |(go_at_call 199;refine je S (C2.o _ S.b) λW S=>?_;rw[<-HA2.o])
   |((with_reducible refine Of 59 290 57 58 ?_);refine Sb S rfl rfl HKL2.o ?_;intro c)
   |((with_reducible refine Xd 290 63 64 65 ?_);refine aak S (eO _) au (i:=(k:Nat)) HWF.o rfl rfl rfl HKL2.o λW S=>?_)
   |refine fN ?_
   |refine ew λW S=>?_)
      go_roundw
      case rel=>exact⟨k+1,x.id,seen++[c0],D.put kl (.lit (.int .i64 ((k:Nat):Int))),au,by go_num,rfl,ae ⟨HSD.o.put (by rw[<-HA2.o];exact HKL2.o) _,HFG.o,S.pop⟩⟩
      case measure=>exact uO
  . obtain rfl:k=l.length:=au;have S:=hS.o.2.2.vP (X':=λ_ _=>True) (λ_ _ _=>kO) dz;have HT:=ae (show T=(bA l).all λx=>gi (bA l) x&&fg (bA l) x by
     rw[HT.o,hS.o.2.1];rw[drop_eq_nil_of_le (by unfold bA;rw[pr];omega)];rfl)
    clear hS
    go_upto_region 19 with(fail)
    go_loopw [69] (λi wr=>∃k:Nat,k<=l.length/\i=.int .i64 k/\Hid ((T=((bA l).drop k).all λx=>gi (bA l) x&&fg (bA l) x)/\St w none [] [] [] (λ_ _=>True) wr)) (λi _=>l.length - (intOf i).toNat)
    case atStart=>exact⟨0,au,rfl,ae ⟨HT.o,S⟩⟩
    case round=>
     clear S;obtain⟨k,hk,rfl,hS⟩:=hrel;by_cases hlt:k<l.length
     . obtain⟨b,o,rfl⟩:=hao.o au;obtain⟨x,hx⟩: ∃x,l[k]? =some x:=⟨_,j4 hlt⟩;have S:=hS.o.2;have hx2: (bA l)[k]? =some x.tocu:=by unfold bA;rw[tY,hx];rfl
       have hst:=hS.o.1;rw[drop_eq_getElem?_toList_append,hx2] at hst;have HST:=ae (show T=((gi (bA l) x.tocu&&fg (bA l) x.tocu)&& ((bA l).drop (k+1)).all λx=>gi (bA l) x&&fg (bA l) x) from hst);have hmem:x∈l:=nf hx;have C1:=ae λW (hb:dp w W)=>Gp l _ hl x (HDL.o x hmem) b (o+k*11) W (HR.o.below hb) ((HR.o.below hb).at hx) ((HR.o.below hb).2 x hmem);have C2:=ae λW (hb:dp w W)=>Gn l _ hl x b (o+k*11) W (HR.o.below hb) ((HR.o.below hb).at hx);have hkl: (k:Int)< (l.length:Int):=au;obtain⟨er,her⟩:=cM (gi (bA l) x.tocu);obtain⟨wr',hwr⟩: ∃wr',fg (bA l) x.tocu=wr':=⟨_,rfl⟩;rw[her,hwr] at HST;rw[her] at C1;rw[hwr] at C2;clear hS hx hx2 hst hmem her hwr;rcases er with _ | _
       rotate_left
       rcases wr' with _ | _
       rotate_left
       . go_wp2_with (first
   |(go_at_call 200;refine je S (C1.o _ S.b) λW S=>?_)
   |(go_at_call 201;refine je S (C2.o _ S.b) λW S=>?_))
         go_roundw
         case rel=>exact⟨k+1,au,by go_num,ae ⟨HST.o,S⟩⟩
         case measure=>exact uO
       all_goals
        go_wp2_with (first
   |(go_at_call 200;refine je S (C1.o _ S.b) λW S=>?_)
   |(go_at_call 201;refine je S (C2.o _ S.b) λW S=>?_))
        go_ret;rw[HST.o];exact⟨rfl,S.b⟩
     . obtain rfl:k=l.length:=au;have S:=hS.o.2;have HYES:=ae (show T=true by
        rw[hS.o.1];rw[drop_eq_nil_of_le (by unfold bA;rw[pr];omega)];rfl)
       clear hS;go_wp2;go_ret;rw[HYES.o];exact⟨rfl,S.b⟩
theorem YQ:lr 40=[]:=by rfl
theorem Gs (hd:nO s.dv)(hc: (bW s [root] 40).2.2=0): (bW s [root] 40).2.1.length=40:=by
 have hs:nE s [root]=gy (s,([],0)) root:=rfl;have hsec: (dW s root).2.1.length=128:=(wU hd root).1;by_cases h3: (dW s root).2.2=0
 . have ht:nE s [root]=((dW s root).1,([]++(dW s root).2.1,0)):=by
    rw[hs];unfold gy;grind
   unfold bW at hc ⊢
   grind
 . have ht:nE s [root]=((dW s root).1,([],(dW s root).2.2)):=by
    rw[hs];unfold gy;grind
   unfold bW at hc
   grind
theorem Gt (hd:nO s.dv)(hc: (bQ s root 40).2.2.2=0): (bQ s root 40).2.1.length=40:=by
 unfold bQ at hc ⊢;rw[YQ] at hc ⊢;by_cases h1:levels 40=[]∨root=hole
 . grind
 . rw[bX h1] at hc ⊢;show((if(bW s [root] 40).2.2≠0 then((bW s [root] 40).1,([],[],(bW s [root] 40).2.2)) else((bW s [root] 40).1,((bW s [root] 40).2.1,[root],0))):Pl×(aK×List aq×Int)).2.1.length=40;have hc': ((if(bW s [root] 40).2.2≠0 then((bW s [root] 40).1,([],[],(bW s [root] 40).2.2)) else((bW s [root] 40).1,((bW s [root] 40).2.1,[root],0))):Pl×(aK×List aq×Int)).2.2.2=0:=hc;by_cases h2: (bW s [root] 40).2.2=0
   . simp_all[Gs]
   grind
theorem y5 {bs:aK}(hb: ∀y∈bs,y<256){l:List cu}(h:jk bs=some (n,l)):l.length<=32/\∀s∈l,vt s/\s.dead.length<=4000:=by
 unfold jk at h;split at h
 . cases h
 . next ts hts=>
   have hlt:=rA hts hb;split at h
   . cases h
   . next h33=>
     split at h
     . cases h
     . split at h
       . cases h
       . next l2 hl2=>
         split at h
         . cases h
         . split at h
           . cases h;have key: ∀(xs:List aK) (m:List cu),(∀x∈xs,∀y∈x,y<256)->gV xs=some m->m.length=xs.length/\∀s∈m,vt s/\s.dead.length<=4000:=by
              intro xs
              induction xs with
              | nil=>intro m _ hm;cases hm<;>grind
              | cons x xs ih=>
               intro m hx hm;unfold gV at hm;split at hm
               . cases hm
               . next s hs=>
                 split at hm
                 . cases hm
                 . next r hr=>
                   cases hm;obtain⟨h1,h2⟩:=ih r (λy hy=>hx y (yz _ hy)) hr;refine⟨by grind,λz hz=>?_⟩;rcases iI.1 hz with rfl | hz
                   . grind[AX]
                   grind
             grind
           . cases h
theorem DG: ∀(l:List cu) {next la:Nat} {seen:List (Nat×lf)},l9 next la seen l=true->∀s∈l,eS s=true
 | [],_,_,_,_,s,hs=>by cases hs
 | x::l,next,la,seen,h,s,hs=>by
  unfold l9 at h;simp only[Jh] at h;rcases iI.1 hs with rfl | hs
  . grind
  . exact DG l h.2 s hs
theorem Eg {s:cu} (h:eS s=true):s.name.size<=24:=by
 simp_all[eS,cq]
theorem Xf {bs:aK} (hb: ∀y∈bs,y<256) {n:Nat} {l:List cu} (h:jk bs=some (n,l)) (hf:mM n l=true):ct ⟨n,l⟩:=by
 obtain⟨h1,h2⟩:=y5 hb h;unfold mM at hf;split at hf
 . cases hf
 . next hn=>
   simp only[Jh] at hf;have hr:=DG l hf.1;refine⟨?_,⟨?_,λt ht=>⟨?_,?_⟩⟩,λs hs=>(h2 s hs).1⟩
   . grind
   . grind
   . grind
   grind[Eg]
def sa:cL:=⟨0,[]⟩
noncomputable def ml3 (n:Nat) (top:List aq) (h g:Pl×(aK×List aq×Int)):cL×(List (Int×Int)×(List aq×Int)):=
 match jk h.2.1 with
 | none=>(sa,([],([],91)))
 | some nl=>if mM nl.1 nl.2=false then(sa,([],([],91))) else
  match nS (n:Nat) g.2.1 with
  | none=>(sa,([],([],91)))
  | some zs=>(⟨nl.1,nl.2⟩,(zs,((top++h.2.2.1)++g.2.2.1,0)))
noncomputable def ml2 (a h:Pl×(aK×List aq×Int)):Pl×(cL×(List (Int×Int)×(List aq×Int))):=
 let g:=fI h.1 (a.2.1.drop 20)
 if g.2.2.2≠0 then(g.1,(sa,([],([],AZ g.2.2.2)))) else(g.1,ml3 g.1.dv.n a.2.2.1 h g)
noncomputable def ml1 (a:Pl×(aK×List aq×Int)):Pl×(cL×(List (Int×Int)×(List aq×Int))):=
 let h:=fI a.1 (a.2.1.take 20)
 if h.2.2.2≠0 then(h.1,(sa,([],([],AZ h.2.2.2)))) else ml2 a h
noncomputable def iu (s:Pl) (table:aq):Pl×(cL×(List (Int×Int)×(List aq×Int))):=
 if(bQ s table 40).2.2.2≠0 then((bQ s table 40).1,(sa,([],([],AZ (bQ s table 40).2.2.2)))) else ml1 (bQ s table 40)
theorem Lw {p q r s:Tmp}{t:dD}{d:TypeDesc}(h:fn.results=#[.cell p ty,.tmp q,.tmp r,.tmp s])(hp:tmps.getD p undef=.pointer (some ⟨g,0,none⟩))(hg:ag w g t n f)(hu:P.underlying ty=some d)(hd: (match d with | .struct _ | .array _ _=>true | _=>false)=true)(hi: (P.info? ty).map (·.size)=some n):
 (results fn tmps).run P w=.ok (.tuple #[.agg (ah n f),tmps.getD q undef,tmps.getD r undef,tmps.getD s undef]) w:=by
 have hp':tmps[p]?.getD undef=bZ g 0:=by simp_all
 simp[results,h,hp',asAddr,SY w g t ty (ah n f) (0,0) d hg hu hd (by grind[aj]),Result.andThen]
section
variable {l:aK}
theorem vz (S:St w0 d l L O X w)(k:Nat){r:R4}{p q q2 q3:Tmp}(hk:L[k]? =some r)(h:fn.results=#[.cell p ty,.tmp q,.tmp q2,.tmp q3])(hp:a.tmps.getD p undef=.pointer (some ⟨r.b,0,none⟩))(ht:fu P ty r.n)(hd:a.defers=[])(hR:R (.returned (.tuple #[.agg (ah r.n r.f),a.tmps.getD q undef,a.tmps.getD q2 undef,a.tmps.getD q3 undef])) w):bodyPost P fn R .ret a w:=by
 obtain⟨⟨dd,h1,h2⟩,h3⟩:=ht;exact kg (Lw h hp (S.ee hk) h1 rE h3) hd hR
theorem St.YR (S:St w0 d l L O X w){bs:aK}(h:Bc w base v bs)(hB: ∀b∈bE L O,b<base∨du w b≠some 5):St w0 d l L O (λB w=>X B w/\qC 5 1 v bs.length (aQ bs) B w) w:=
 S.yu (cz 5 1 v _ _ rfl rfl) ⟨h.sl,λhn b hb hm=>by
  rcases hB b hm with h1 | h1
  . have:=h.new hn b hb;omega
  . exact h1 (h.sl.ty hb hn)⟩
theorem St.Lx (S:St w0 d l L O X w)(f:Fr d2 l2 w w')(hd: ∀D,d2=some D->d=some D)(hl: ∀k∈l2,k∈l∨w0.heap.size<=k)(hs:gX d X')(hx: ∀B,X B w->X' B w'){q:bh}{bs:aK}(hg:Bc w' w.heap.size v bs)(ho:dh w' w.heap.size q ps):St w0 d l L (⟨106,3,q,ps.length,eo ps⟩::O) (λB w=>X' B w/\qC 5 1 v bs.length (aQ bs) B w) w':=by
 refine(S.pO f hd hl hs hx ho rfl rfl).YR hg λb hb=>?_;rcases dx.1 hb with⟨r,hr,e⟩ | ⟨o,ho2,e⟩
 . exact .inl (S.lt b (dx.2 (.inl ⟨r,hr,e⟩)))
 . rcases iI.1 ho2 with rfl | ho2
   . exact .inr (by rw[lP ho e];decide)
   . exact .inl (S.lt b (dx.2 (.inr ⟨o,ho2,e⟩)))
end
theorem Dn:prog.built 99 []=some #[.int .u64 0,.slice none 0 0]:=cm
theorem IX (s:Pl) (root:aq) (n:Int): (bQ s root n).2.1.length<=65535:=by
 unfold bQ;split
 . grind
 . next h=>
   simp only;split
   . grind
   . split
     . grind
     . have hn:n.toNat<=65535:=by
        have h1:levels n≠ []:=λe=>h (.inl e);unfold levels at h1
        grind
       show(bW _ _ _).2.1.length<=_;unfold bW
       grind
theorem Ly (s:Pl)(hb:aK): (fI s hb).2.1.length<=65535:=by
 unfold fI;split
 . grind
 grind[IX]
theorem tp (s:Pl)(hb:aK): (fI s hb).2.2.1.length<=6000:=by
 unfold fI;split
 . grind
 grind[mL]
theorem Uo (w:aD)(base:Nat):gF w base (ah 2 (bg qO)) sa:=⟨qO,rfl,rfl,ju _ _ _ _,λx hx=>by cases hx⟩
theorem Lz (P D M0:Nat)(s:Pl)(root:aq)(hr:bt root)(w:aD)(h:bH w P D M0 s):
 Calls prog 87 #[.pointer (some ⟨P,0,none⟩),iy root] w λe w'=>∃B r q,e=.returned (.tuple #[.agg B,r,q,.int .i64 (iu s root).2.2.2.2])/\gF w' w.heap.size B (iu s root).2.1/\kr w' w.heap.size r (iu s root).2.2.1/\bK w' r (iu s root).2.2.1/\dh w' w.heap.size q (iu s root).2.2.2.1/\cx (iu s root).2.2.2.1/\bH w' P D M0 (iu s root).1/\Fr (some D) [] w w':=by
 obtain⟨A,hA⟩:=gq (ah 3 (aN root));have S:=St.start w (some D) [] (bu P D M0 s) h;have C1:=ae λW h=>qY P D M0 s root hr 40 W h;have hlen:=Gt h.dev.ok (root:=root);have hll1:=mL s root 40;obtain⟨ML,hML⟩:=cM (iu s root);rw[hML,az hA];rw[az hA] at C1;unfold iu at hML;obtain⟨a,ha⟩:=cM (bQ s root 40);rw[ha] at C1 hML hlen hll1;obtain⟨s1,hb,top,c1⟩:=a;simp only at C1 hlen hll1;have HA:=ae hA;clear hA ha h hr;go_enter func87,ntmps87
 go_upto_region 2 with(first|(go_at_call 147;refine(C1.o _ S.x).mono ?_;rintro e W ⟨r,q,rfl,hg,hq,hpl,hp,hf⟩;have HGF:=ae (aR hg.sl);have HQF:=ae (aH hq);have HPL1:=ae hpl;have HLT1:=ae hg.lt;replace S:=S.Lx hf (λD e=>e) fh (bu P D M0 s1) (λB h=>hp) hg hq;clear hg hq hpl;obtain⟨ha,hc,rfl,hcap1,-⟩:=HGF.o;obtain⟨qa,qc,rfl⟩:=HQF.o)|refine fN ?_|refine ew λW S=>?_)
 by_cases g2:c1=0
 case neg=>
  have g3: (c1 != 0)=true:=lh.2 g2;have HML:=ae (show ML=(s1,(sa,([],([],AZ c1)))) by rw[<-hML,bC g2]);clear g2 hML
  go_wp2_with (first|(go_at_call 148;refine(Cn _ _).mono ?_;rintro e W' ⟨rfl,rfl⟩)|((with_reducible refine aJ ?_);go_must (refine vz S 0 rfl rfl rfl fe rfl ?_;rw[HML.o];exact⟨_,_,_,rfl,Uo _ _,ju _ _ _ _,bK.nil _,dh.nil _ _,bm,S.x.1,S.fr⟩))|refine fN ?_|refine ew λW S=>?_)
 subst g2;have hml1:ML=ml1 (s1,(hb,(top,0))):=by rw[<-hML,bX (λh=>h rfl)]
 replace hlen:=hlen rfl;unfold ml1 at hml1;simp only at hml1;have ht20: (hb.take 20).length=20:=by rw[pM,hlen];rfl
 have hd20: (hb.drop 20).length=20:=by rw[Ek,hlen]
 have C2:=ae λv W h R=>DE P D M0 s1 (hb.take 20) ht20 (λx hx=>HLT1.o x (rD hx)) v W h R;have HT1:=ae λW (R:ar W 5 1 (.slice ha hb.length hc) hb.length (aQ hb))=>(show ar W 5 1 (.slice ha 20 hc) 20 (aQ (hb.take 20)) from by have h9:=ar.take R (i:=20) au;rwa [wy,od] at h9);obtain⟨da,HDA⟩:=qI (fD ha hc 20 1);have HT2:=ae λW (R:ar W 5 1 (.slice ha hb.length hc) hb.length (aQ hb))=>(show ar W 5 1 (.slice da (hb.length - 20) (hc - 20)) 20 (aQ (hb.drop 20)) from by have h9:=ar.vN R (i:=20) au;rw[wy,qt,HDA.o,show hb.length - 20=20 by omega] at h9;rw[show hb.length - 20=20 by omega];exact h9);have h20: (20:Nat)<=hb.length:=au;have h20c: (20:Nat)<=hc:=au;have hll2:=tp s1 (hb.take 20);have htl2:=Ly s1 (hb.take 20);obtain⟨a,ha2⟩:=cM (fI s1 (hb.take 20));rw[ha2] at C2 hml1 hll2 htl2;obtain⟨s2,tx,l1,c2⟩:=a;simp only at C2 hml1 hll2 htl2;clear ha2 hML hlen ht20
 go_upto_region 5 with(first|((with_reducible refine ej 33 22 32 ?_);refine Nr nC rfl rfl (y:=20) h20c ?_)|(go_at_call 149;refine(C2.o _ _ S.x.1 (HT1.o _ S.x.2.1)).mono ?_;rintro e W ⟨r,q,rfl,hg,hq,hpl,hp,hf⟩;have HGF:=ae (aR hg.sl);have HQF:=ae (aH hq);have HPL2:=ae hpl;have HLT2:=ae hg.lt;replace S:=S.Lx hf (λD e=>e) fh ((bu P D M0 s2).still (cz 5 1 (.slice ha hb.length hc) hb.length (aQ hb) rfl rfl)) (λB h=>⟨hp,(cz 5 1 _ _ _ rfl rfl).fr h.2 hf⟩) hg hq;clear hg hq hpl;obtain⟨ta,tc,rfl,hcap2,-⟩:=HGF.o;obtain⟨ra,rc,rfl⟩:=HQF.o))
 by_cases g2:c2=0
 case neg=>
  have g3: (c2 != 0)=true:=lh.2 g2;have HML:=ae (show ML=(s2,(sa,([],([],AZ c2)))) by rw[hml1,bC g2]);clear g2 hml1
  go_wp2_with (first|(go_at_call 148;refine(Cn _ _).mono ?_;rintro e W' ⟨rfl,rfl⟩)|((with_reducible refine aJ ?_);go_must (refine vz S 0 rfl rfl rfl fe rfl ?_;rw[HML.o];exact⟨_,_,_,rfl,Uo _ _,ju _ _ _ _,bK.nil _,dh.nil _ _,bm,S.x.1.1,S.fr⟩))|refine fN ?_|refine ew λW S=>?_)
 subst g2;rw[bX (λh=>h rfl)] at hml1;unfold ml2 at hml1;simp only at hml1;have C3:=ae λv W h R=>DE P D M0 s2 (hb.drop 20) hd20 (λx hx=>HLT1.o x (vF hx)) v W h R;have hll3:=tp s2 (hb.drop 20);obtain⟨a,ha2⟩:=cM (fI s2 (hb.drop 20));rw[ha2] at C3 hml1 hll3;obtain⟨s3,sx,l2,c3⟩:=a;simp only at C3 hml1 hll3;clear ha2 hd20
 go_upto_region 8 with(first|((with_reducible refine ej 46 22 45 ?_);refine qn nC rfl rfl (y:=20) h20 ?_;rw[HDA.o])|(go_at_call 149;refine(C3.o _ _ S.x.1.1 (HT2.o _ S.x.1.2.1)).mono ?_;rintro e W ⟨r,q,rfl,hg,hq,hpl,hp,hf⟩;have HGF:=ae (aR hg.sl);have HQF:=ae (aH hq);have HPL3:=ae hpl;have HLT3:=ae hg.lt;replace S:=S.Lx hf (λD e=>e) fh ((bu P D M0 s3).still (cz 5 1 (.slice ta tx.length tc) tx.length (aQ tx) rfl rfl)) (λB h=>⟨hp,(cz 5 1 _ _ _ rfl rfl).fr h.2 hf⟩) hg hq;clear hg hq hpl;obtain⟨ua,uc,rfl,hcap3,-⟩:=HGF.o;obtain⟨va,vc,rfl⟩:=HQF.o))
 by_cases g2:c3=0
 case neg=>
  have g3: (c3 != 0)=true:=lh.2 g2;have HML:=ae (show ML=(s3,(sa,([],([],AZ c3)))) by rw[hml1,bC g2]);clear g2 hml1
  go_wp2_with (first|(go_at_call 148;refine(Cn _ _).mono ?_;rintro e W' ⟨rfl,rfl⟩)|((with_reducible refine aJ ?_);go_must (refine vz S 0 rfl rfl rfl fe rfl ?_;rw[HML.o];exact⟨_,_,_,rfl,Uo _ _,ju _ _ _ _,bK.nil _,dh.nil _ _,bm,S.x.1.1,S.fr⟩))|refine fN ?_|refine ew λW S=>?_)
 subst g2;rw[bX (λh=>h rfl)] at hml1;unfold ml3 at hml1;simp only at hml1;have C4:=ae λu W R=>IE tx u au HLT2.o W R;obtain⟨er,her⟩:=cM (jk tx);rw[her] at C4 hml1;cases er with
 | none=>
  have e1:codeF 151 (none:Option (Nat×List cu))=151:=rfl;rw[e1] at C4;have HML:=ae hml1;clear hml1 her e1
  go_upto_region 12 with(go_at_call 150;refine(C4.o _ _ S.x.1.2.1).mono ?_;rintro e W ⟨r,rfl,ho,hb⟩;replace S:=S.below hb)
  go_wp2_with (first|((with_reducible refine aJ ?_);go_must (refine vz S 0 rfl rfl rfl fe rfl ?_;rw[HML.o];exact⟨_,_,_,rfl,Uo _ _,ju _ _ _ _,bK.nil _,dh.nil _ _,bm,S.x.1.1,S.fr⟩))|refine fN ?_|refine ew λW S=>?_)
 | some nl=>
  obtain⟨nx,sl⟩:=nl;have e1:codeF 151 (some (nx,sl))=0:=rfl;rw[e1] at C4;simp only[Va,mb] at C4 hml1;obtain⟨hs32,hsp⟩:=y5 HLT2.o her;obtain⟨fr,hfr⟩:=cM (mM nx sl);rw[hfr] at hml1;have C5:=ae λ(m:List aZ) (hm:bA m=sl) (u:bh) W (R:cQ W u m)=>Lv nx m u (λx hx=>by have:=(hsp x.tocu (by rw[<-hm];exact lY.2 ⟨x,hx,rfl⟩)).2;omega) (by rw[<-hm,dC] at hs32;omega) W R;have C5:=ae λ(m:List aZ) (hm:bA m=sl) (u:bh) W (R:cQ W u m)=>(show yr 151 #[.int .u64 nx,u] W (.bool fr) from by have h9:=C5.o m hm u W R;rw[hm,hfr] at h9;exact h9);clear her e1 hfr;cases fr with
  | false=>
   rw[bC rfl] at hml1;have HML:=ae hml1;clear hml1
   go_upto_region 12 with(first|(go_at_call 150;refine(C4.o _ _ S.x.1.2.1).mono ?_;rintro e W ⟨r,rfl,⟨m,ho,hm⟩,hb⟩;have HM:=ae hm;have HF9:=ae (aH ho.1);replace S:=S.xh hb ho;clear hm;obtain⟨wa,wc,rfl⟩:=HF9.o)|(go_at_call 151;refine je S (C5.o m HM.o _ _ ⟨S.q0,λx hx=>(S.x.2 x hx).1⟩) λW S=>?_))
   go_wp2_with (first|((with_reducible refine aJ ?_);go_must (refine vz S 0 rfl rfl rfl fe rfl ?_;rw[HML.o];exact⟨_,_,_,rfl,Uo _ _,ju _ _ _ _,bK.nil _,dh.nil _ _,bm,S.x.1.1.1,S.fr⟩))|refine fN ?_|refine ew λW S=>?_)
  | true=>
   rw[bX nh] at hml1;have HFW:=ae S.x.1.1.mZ;have C6:=ae λv W R=>Gl (s3.dv.n:Nat) (by have:=HFW.o;unfold bT;omega) v sx HLT3.o W R;obtain⟨ms,hms⟩:=cM (nS (s3.dv.n:Nat) sx);rw[hms] at C6 hml1;clear hms;cases ms with
   | none=>
    have e1:codeF 81 (none:Option (List (Int×Int)))=81:=rfl;rw[e1] at C6;have HML:=ae hml1;clear hml1 e1
    go_upto_region 15 with(first
   |(go_at_call 150;refine(C4.o _ _ S.x.1.2.1).mono ?_;rintro e W ⟨r,rfl,⟨m,ho,hm⟩,hb⟩;have HM:=ae hm;have HF9:=ae (aH ho.1);replace S:=S.xh hb ho;clear hm;obtain⟨wa,wc,rfl⟩:=HF9.o)
   |(go_at_call 151;refine je S (C5.o m HM.o _ _ ⟨S.q0,λx hx=>(S.x.2 x hx).1⟩) λW S=>?_)
   |(go_at_call 106;refine(iJ P D M0 _ _ _ S.x.1.1.1.row).mono ?_;rintro e W ⟨rfl,rfl⟩)
   |(go_at_call 84;refine(uw D _ _ S.x.1.1.1.dev).mono ?_;rintro e W ⟨rfl,rfl⟩)
   |(go_at_call 152;refine(C6.o _ _ S.x.1.2.1).mono ?_;rintro e W ⟨r,rfl,-,-,hb⟩;replace S:=S.below hb))
    go_wp2_with (first
   |((with_reducible refine aJ ?_);go_must (refine vz S 0 rfl rfl rfl fe rfl ?_;rw[HML.o];exact⟨_,_,_,rfl,Uo _ _,ju _ _ _ _,bK.nil _,dh.nil _ _,bm,S.x.1.1.1,S.fr⟩))
   |refine fN ?_
   |refine ew λW S=>?_)
   | some set=>
    have e1:codeF 81 (some set)=0:=rfl;rw[e1] at C6;simp only[mb] at C6 hml1;have HML:=ae hml1;clear hml1 e1;obtain⟨B9,hB9⟩: ∃f: (Option Addr->Nat->List aZ->iw),f=λa c m=>ah 2 (bg ⟨nx,m,a,c⟩):=⟨_,rfl⟩;have HB9:=ae (show ∀a c m,B9 a c m=ah 2 (bg ⟨nx,m,a,c⟩) from λa c m=>by rw[hB9]);clear hB9
    go_wp2_with (first
   |(go_at_call 150;refine(C4.o _ _ S.x.1.2.1).mono ?_;rintro e W ⟨r,rfl,⟨m,ho,hm⟩,hb⟩;have HM:=ae hm;have HF9:=ae (aH ho.1);have HFR:=ae (show ∀x∈m,l5 w.heap.size x from λx hx hn b h9=>kL S.fr.size ((ho.2 x hx).2 hn b h9));replace S:=S.xh hb ho;clear hm;obtain⟨wa,wc,rfl⟩:=HF9.o)
   |(go_at_call 151;refine je S (C5.o m HM.o _ _ ⟨S.q0,λx hx=>(S.x.2 x hx).1⟩) λW S=>?_)
   |(go_at_call 106;refine(iJ P D M0 _ _ _ S.x.1.1.1.row).mono ?_;rintro e W ⟨rfl,rfl⟩)
   |(go_at_call 84;refine(uw D _ _ S.x.1.1.1.dev).mono ?_;rintro e W ⟨rfl,rfl⟩)
   |(go_at_call 152;refine(C6.o _ _ S.x.1.2.1).mono ?_;rintro e W ⟨r,rfl,ho,hs,hb⟩;have HSP:=ae (And.intro (show ∀x∈set,bT x.1/\bT x.2 from by obtain⟨_,_,_,_,h9,_⟩:=hs;exact h9) (show set.length<=9223372036854775807 from by obtain⟨_,_,_,h9,_⟩:=hs;exact h9));have HF8:=ae (aH ho);replace S:=S.cU hb ho rfl rfl;clear hs;obtain⟨xa,xc,rfl⟩:=HF8.o)
   |((with_reducible refine aY 84 99 ?_);refine eW (cells:=B9 wa wc m) rfl (by rw[HB9.o];exact KZ _ _ _ _) ?_)
   |((with_reducible refine j6 89 299 3 ?_);refine blV S [.slice qa top.length qc,.slice ra l1.length rc,.slice va l2.length vc] underlying299 R8 au au rfl rfl (by intro v hv;simp only[iI,kz,tZ] at hv;rcases hv with rfl | rfl | rfl <;> rfl) rfl λW S=>?_)
   |(go_at_call 153;refine(Gj [(.slice qa top.length qc,top),(.slice ra l1.length rc,l1),(.slice va l2.length vc,l2)] _ (show(3:Nat)<=1000 by omega) (show top.length+ (l1.length+ (l2.length+0))<=100000 by omega) _ (yg S.k0 rfl (eO 3) (show(3:Nat)<=maxLen by unfold maxLen;omega) λj u hu=>⟨(sy.1 hu).1,by grind⟩) (by intro x hx;simp only[iI,kz,tZ] at hx;rcases hx with rfl | rfl | rfl;exact ar.aV (S.bR (k:=4) rfl);exact ar.aV (S.bR (k:=3) rfl);exact ar.aV S.o2)).mono ?_;rintro e W ⟨r,rfl,ho,hb⟩;have HF7:=ae (aH ho);replace S:=S.cU hb ho rfl rfl;obtain⟨ja,jc,rfl⟩:=HF7.o)
   |((with_reducible refine aS 99 4 84 ?_);refine Nb S 1 rfl rfl rfl (HB9.o wa wc m) fe (aT _) λW S=>?_))
    have HF6:=ae (show [(Value.slice qa top.length qc,top),(Value.slice ra l1.length rc,l1),(Value.slice va l2.length vc,l2)].flatMap Prod.snd=(top++l1)++l2 by simp);refine vz S 1 rfl rfl rfl fe rfl ?_;rw[HML.o];refine⟨_,_,_,rfl,⟨⟨nx,m,wa,wc⟩,rfl,?_,S.o2,λx hx=>⟨(S.x.2 x hx).1,HFR.o x hx⟩⟩,S.o1,qe S.o1 HSP.o.1 HSP.o.2,?_,λy hy=>?_,S.x.1.1.1,S.fr⟩
    . unfold bx.t;rw[<-HM.o]
    . show dh W w.heap.size (.slice ja (top.length+ (l1.length+l2.length)) jc) ((top++l1)++l2);rw[show top.length+ (l1.length+l2.length)=((top++l1)++l2).length by rw[kh,kh];omega];have h9:=S.o0;rw[HF6.o] at h9;exact h9
    . rcases jn.1 hy with hy | hy
      . rcases jn.1 hy with hy | hy
        . exact HPL1.o y hy
        . exact HPL2.o y hy
      . exact HPL3.o y hy
end Go.Proofs.YtklligbjoplbgaaGreat
