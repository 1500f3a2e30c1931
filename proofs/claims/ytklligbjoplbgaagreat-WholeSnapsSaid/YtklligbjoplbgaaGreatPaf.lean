/- Part 6 of the proof of WholeSnaps. No conditions. -/
import Derived.Test.YtklligbjoplbgaaGreatPae
import Derived.Sort.CutIn
set_option linter.all false
open List renaming length->List.n
open String renaming length->String.n
open Array renaming size->Array.s,toList->Array.t
open ByteArray renaming size->ByteArray.s
open Go.TypeInfo renaming size->Go.TypeInfo.s
open Go.RowKit.Below renaming size->Go.RowKit.Below.s
open Option renaming toList->Option.t,some->cu,none->cw
open Go.World renaming heap->Go.World.h
open Int renaming toNat->Int.m
open Go.Value renaming int->bU,agg->bV,pointer->bW,slice->bX,bool->bZ,tuple->cg
open Go.Ending renaming returned->cj
open Go.IntKind renaming i64->cq,u64->ct
open Bool renaming true->cx,false->cy
namespace Go.Proofs.YtklligbjoplbgaaGreat
set_option maxRecDepth 100000
set_option maxHeartbeats 64000000
open Go.RowKit Lib List Nat _root_.Go.Proofs.Tryz Go.Shelf
variable {A tmps:gE}{K:Act->cS->Prop}{af:Array Edge}{ops:Array Oper}{R:Ending->cS->Prop}{Q:Exit->Act->cS->Prop}{fn:Func}{c:Int}{B dZ l ls:cV}{X:cV->cS->Prop}{bs log:List Int}{ms:List kQ}{O:List O4}{rest:List Oper}{ps:List cQ}{L:List R4}{xs:List c7}{D E M b base cap dst i j k m n o own want x y z:Nat}{f:Nat->c7}{a' ao:Option Addr}{d:Option Nat}{P:oN}{s s1 s2:Pl}{a:Pl×(List cQ×Int)}{q:cQ}{p:String}{e t t2 ty u:dU}{α β:Type}{v:c7}{w w' w0:cS}
attribute [local go_sem] Oper.semAt_some
def qV(l:List dw)(id:Nat):Nat:=
 match fj l id with
 |none=>0
 |some i=>if(dH l i).dz=cx then((l.filter λs=>decide (s.dB=id)).find? λs=>decide (s.cY=(dH l i).cY)).elim 0 dw.id else 0
def D0{F:Fence}{W:cS}(S:St w0 d l L O X W)(e:lW X)(c:w0.h.s<=D)(b:W.h[D]?=cu (.deferred (cu [])))(h:∀a,St w0 d l L O X a->∃v,(results fn tmps).run P a=.ok v a/\R (cj v) a):LeavesInM F n P fn tmps R [{target:=.collected D,args:=#[]}] .returning W:=
 ⟨by simp,.inl ⟨_,_,ae,run_takeDeferred b,h _ (S.obj (uW (grownBy_putObj' W D _)) (Hi b ae) c e)⟩⟩
theorem UX{l:List dL}{id:Nat}{x:dL}(a:fj (eM l) id=cu i)(b:l[i]?=cu x):qV (eM l) id=if x.dz=cx then(((eM l).filter λs=>decide (s.dB=id)).find? λs=>decide (s.cY=x.cY)).elim 0 dw.id else 0:=by grind[qV,lG]
theorem EM(l:List dL)(id:Nat):((eM l).filter λs=>decide (s.dB=id))=(r9 l id l.n).map λi=>(l.get i).todw:=by have h:=gD (map dL.todw) (aby l id);rw[wO] at h;unfold eM;rw[filter_map];exact h.symm
theorem abC{l:List dL}{id:Nat}(h:∀z∈r9 l id l.n,(l.get z).cY≠own):(((eM l).filter λs=>decide (s.dB=id)).find? λs=>decide (s.cY=own))=cw:=by rw[EM,find?_eq_none];grind
theorem abD{l:List dL}{id:Nat}{p:List (Fin l.n)}{z:Fin l.n}(a:p++[z]<+:r9 l id l.n)(h:∀z∈p,(l.get z).cY≠own)(b:(l.get z).cY=own):(((eM l).filter λs=>decide (s.dB=id)).find? λs=>decide (s.cY=own))=cu (l.get z).todw:=by grind[EM]
section
attribute[local irreducible]wpList Code.wp Calls Oper.wp wpAnyH
def X1(l:List dL)(v:c7)(id:Nat)(hl:l.n<=1000000)(w:cS)(R:gu w v l):
 CallsIn Fence.wide 5 prog 132 #[v,bU ct id] w λe w'=>e=cj (bU ct (qV (eM l) id:Nat))/\dR w w':=by
 obtain⟨ao,cap,rfl,a5,m⟩:=dP R.1;have H:=cz R;have m:=cz m;have r:=cz λW(n:dR w W)=>uk l _ id hl W (R.cP n);have S:=qR w;obtain⟨T,A⟩:=dI (qV (eM l) id);rw[A];clear R;refine callsIn_of_wp_marks func132 ae iG ?_ ae;simp only[ntmps132,AG,lr,tX,reduceAdd,reduceSub,AH,vE,vF,vG,pN,uG];rcases f:fj (eM l) id with _|i;rw[f] at r;obtain rfl:0=T:=by rw[<-A];unfold qV;rw[f]
 simp only[lF] at r;clear A f
 rotate_left
 obtain⟨a8,x,hx,-⟩:=kL f;have a:=UX f hx;rw[A] at a;rw[f] at r;simp only[lF] at r;clear A f;obtain⟨b,o,rfl⟩:=m.o cN;have I:=cz (H.o.at hx);have a7:(i:Int)<(l.n:Int):=cN;rcases hs:x.dz with _|_;obtain rfl:T=0:=by rw[a,hs];rfl
 clear a
 rotate_left
 . rw[df hs] at a;have HT:=cz a;clear a
   gi_upto_region 0 with fail
   refine j9 sP dC vw ?_
   go_wp2_with first|refine DJ S (v:=bX (s_ b o) l.n cap) rfl rfl rfl λN S=>?_|refine fg λW S=>?_
   gi_upto_region 1 with fail
   refine j9 sP dC vw ?_
   go_wp2_with first|(refine aj (r.o _ S.b) λO n=>?_;replace S:=S.cP n;clear n)|refine fL ?_|refine fg λW S=>?_
   gi_upto_region 2 with fail
   refine j9 sP dC vw ?_
   go_wp2_with first|(first|refine jm 13 97 2 S 2 0 (bX (s_ b o) l.n cap) ?_|refine jm 14 3 5 S 0 0 (bU cq i) ?_)|(refine mi dC ?_;refine jF (v:=bZ cx) (by rw[<-hs];exact(I.o.cP S.b).c2) ae tT ?_)|refine fL ?_
   gi_upto_region 4 with fail
   refine j9 sP dC vw ?_
   go_wp2_with first|(refine aj (DY (s_ b o) l.n cap id _) λM hW=>?_;have HB:=cz (DZ hW);clear hW)|refine fL ?_
   gi_wp2
   replace S:St w cw [] [⟨O.h.s,3,1,λ_=>bU cq i⟩,⟨N.h.s,82,1,λ_=>bU ct 0⟩,⟨w.h.s,97,1,λ_=>bX (s_ b o) l.n cap⟩] [] (λ_ _=>True) W:=S;obtain⟨n,X,V,a4,a,a9⟩:=HB.o;have C:iA w b=cu 109:=c8.ty H.o.1 ae cN;have Y:∀k∈ [W.h.s,W.h.s+1]++(Value.slice (s_ b o) l.n cap).ownBlock.t,(W.h.s<=k∨k<w.h.s)/\∃t,iA M k=cu t/\lS t=cy/\gV t=cy:=by
    intro k d;simp only[Value.ownBlock,Lu,uG,pN,iZ,jK,uH] at d;rcases d with rfl|rfl|rfl
    . exact⟨.inl (eN _),_,a4,ae,ae⟩
    . exact⟨.inl (le_succ _),_,a,ae,ae⟩
    . exact⟨.inr (iy C),_,vX (vX C S.b) n,ae,ae⟩
   replace S:=S.UE n Y;have U:=S.x.2;have b1:w.h.s<=M.h.s:=S.fr.size;refine wpIn_rangeFunc_ownF ae cN (gf:=232) (lb:=#[dE W.h.s 0,dE (W.h.s+1) 0]) ae iG (enters_of func232 dC ae)
    (Gv 4 W.h.s (W.h.s+1) _ l id hl M (H.o.cP S.b) X V) np.trans (np.wV λk d=>let⟨_,h1,_⟩:=(U k d).2;iy h1) (gJ _ _) (λ_=>ae)
    (λj s=>∃y:Unit,Hid (∀z∈j,(l.get z).cY≠x.cY)/\St w cw [] [⟨O.h.s,3,1,λ_=>bU cq i⟩,⟨N.h.s,82,1,λ_=>bU ct 0⟩,⟨w.h.s,97,1,λ_=>bX (s_ b o) l.n cap⟩] [] (λB w=>True/\Tg ([W.h.s,W.h.s+1]++(Value.slice (s_ b o) l.n cap).ownBlock.t) B w) s)
    (λc j s=>∃y:Fin l.n,Hid (c=.ret/\∃p,j=p++[y]/\(∀z∈p,(l.get z).cY≠x.cY)/\(l.get y).cY=x.cY)/\St w cw [] [⟨O.h.s,3,1,λ_=>bU cq i⟩,⟨N.h.s,82,1,λ_=>bU ct ((l.get y).id:Nat)⟩,⟨w.h.s,97,1,λ_=>bX (s_ b o) l.n cap⟩] [] (λB w=>True/\Tg ([W.h.s,W.h.s+1]++(Value.slice (s_ b o) l.n cap).ownBlock.t) B w) s)
    (rZ S.fr.size _ _ _ _ λ_ _=>lW.t.and (lW.av _)) (λc=>rZ S.fr.size _ _ _ _ λ_ _=>lW.t.and (lW.av _))
    ⟨(),cz (λ_ h=>by cases h),S⟩ ?a1 ?assign ?body ?done ?stop
   case assign=>
    intro lp z s K u
    gi_wp2
    exact u
   case body=>
    clear S;rintro lp j z W0 ⟨-,f,S⟩ -;replace S:=S.fI;obtain⟨y,J⟩:=dI (l.get z);have G:l[z.val]?=cu y:=by rw[jE z.isLt,<-J];rfl
    have L:=cz (H.o.at G);have b2:=z.isLt;have hz:(z.val:Int)<(l.n:Int):=cN;clear G;rcases BG (y.cY=x.cY) with he|he
    . have Z:(((y.cY:Nat):Int)==((x.cY:Nat):Int))=cx:=by rw[xL];omega
      gi_wp2
      refine Aq sP S dC dC vw λW S=>?_;refine dh 0 (bX (s_ b o) l.n cap) ?_;refine dh 1 _ ?_;refine dh 2 (dE b (o+z.val*11)) ?_;refine dh 3 (dE b (o+z.val*11+3)) ?_;refine gZ 4 (bU ct y.cY) ae (gO (λw h=>by obtain⟨_,S⟩:=h;exact(L.o.cP S.b).c3) ae fZ) ?_;refine dh 5 (bX (s_ b o) l.n cap) ?_;refine dh 6 (bU cq i) ?_;refine dh 7 (dE b (o+i*11)) ?_;refine dh 8 (dE b (o+i*11+3)) ?_;refine gZ 9 (bU ct x.cY) ae (gO (λw h=>by obtain⟨_,S⟩:=h;exact(I.o.cP S.b).c3) ae fZ) ?_;refine dh 10 (bZ cx) ?_;refine qx ?_
      gi_upto_region 7 with fail
      refine j9 sP dC vw ?_
      go_wp2_with first|(first|refine jo 39 82 38 (v:=bU ct y.id) ((L.o.cP S.b).c0) ?_)|refine fL ?_|refine fg λW S=>?_
      gi_wp2
      have d:=S.kept (xh.still (kG _));refine⟨d.1,z,cz ⟨ae,j,ae,f.o,by rw[J];exact he⟩,?_⟩;rw[J];exact(d.2.2.xN (k:=1) ae (g:=λ_=>bU ct y.id) λi hi=>by have hi:i<1:=hi;obtain rfl:i=0:=cN;rfl)
    . have Z:(((y.cY:Nat):Int)==((x.cY:Nat):Int))=cy:=by rw[lR];omega
      gi_wp2
      refine Aq sP S dC dC vw λW S=>?_;refine dh 0 (bX (s_ b o) l.n cap) ?_;refine dh 1 _ ?_;refine dh 2 (dE b (o+z.val*11)) ?_;refine dh 3 (dE b (o+z.val*11+3)) ?_;refine gZ 4 (bU ct y.cY) ae (gO (λw h=>by obtain⟨_,S⟩:=h;exact(L.o.cP S.b).c3) ae fZ) ?_;refine dh 5 (bX (s_ b o) l.n cap) ?_;refine dh 6 (bU cq i) ?_;refine dh 7 (dE b (o+i*11)) ?_;refine dh 8 (dE b (o+i*11+3)) ?_;refine gZ 9 (bU ct x.cY) ae (gO (λw h=>by obtain⟨_,S⟩:=h;exact(I.o.cP S.b).c3) ae fZ) ?_;refine dh 10 (bZ cy) ?_;refine qx ?_
      gi_wp2
      have d:=S.kept (xh.still (kG _));refine⟨d.1,d.2.1,(),cz λq F=>?_,d.2.2⟩;rcases gH.1 F with F|F
      . exact f.o q F
      . obtain rfl:=fM.1 F;rw[J];exact he
   case done=>
    clear S;rintro D ys W0 hD rfl ⟨-,f,S⟩ u;have Q:T=0:=by rw[HT.o,abC f.o];rfl
    replace S:=S.fI
    gi_upto_region 8 with fail
    gi_upto_region 8 with fail
    refine j9 sP dC vw ?_
    go_wp2_with refine fg λW S=>?_
    gi_wp2
    have d:=S.kept (xh.still (kG _));refine D0 d.2.2 (lW.t.and (lW.av _)) cN (d.1.same D _ u ae) λs S=>?_;have hc:=S.cell (k:=1) ae (i:=0) zH;exact⟨bU ct 0,by simp[results,f132,go_sem,hc],by rw[Q];rfl,S.b⟩
   case stop=>
    clear S;rintro D c j W0 hD E ⟨z,f,S⟩ u;obtain⟨rfl,p,rfl,a3,a2⟩:=f.o;have a6:T=(l.get z).id:=by rw[HT.o,abD E a3 a2];rfl
    gi_wp2
    refine D0 S (lW.t.and (lW.av _)) cN u λs S=>?_;have hc:=S.cell (k:=1) ae (i:=0) zH;exact⟨bU ct ((l.get z).id:Nat),by simp[results,f132,go_sem,hc],by first|rfl,S.b⟩
 all_goals
  gi_upto_region 0 with fail
  refine j9 sP dC vw ?_
  go_wp2_with refine fg λW S=>?_
  gi_upto_region 1 with fail
  refine j9 sP dC vw ?_
  go_wp2_with first|refine je S (r.o _ S.b) λW S=>?_|refine fL ?_|refine fg λW S=>?_
  gi_upto_region 2 with fail
  refine j9 sP dC vw ?_
  go_wp2_with first|(first|refine jm 13 97 2 S 2 0 (bX (s_ b o) l.n cap) ?_|refine jm 14 3 5 S 0 0 (bU cq i) ?_)|(refine mi dC ?_;refine jF (v:=bZ cy) (by rw[<-hs];exact(I.o.cP S.b).c2) ae tT ?_)|refine fL ?_
  gi_upto_region 3 with fail
  refine j9 sP dC vw ?_
  go_wp2_with refine fg λW S=>?_
  gi_wp2
  have hc:=S.cell (k:=1) ae (i:=0) (zH);exact⟨_,by simp[results,f132,go_sem,hc],ae,S.b⟩
end
attribute [local go_sem] Oper.semAt_some
def Zz:lD prog 78:=⟨⟨_,vS,ae⟩,dC⟩
instance indde69 :ru 78:=⟨Zz⟩
def x6(l:List dw)(id:Nat):cV:=
 match fj l id with
 |none=> []
 |some i=>if(dH l i).dz=cx then((l.filter λs=>decide (s.dB=id)).filter λs=>!decide (s.cY=(dH l i).cY)).map dw.id else []
theorem X2{l:List dL}{id:Nat}{x:dL}(a:fj (eM l) id=cu i)(b:l[i]?=cu x):x6 (eM l) id=if x.dz=cx then(((eM l).filter λs=>decide (s.dB=id)).filter λs=>!decide (s.cY=x.cY)).map dw.id else []:=by grind[x6,lG]
section
variable {a:Act}
theorem ahP(hc:w.cell? ⟨b,o,cw⟩=cu v)(g:a.eval (.tmp x)=bW (cu ⟨b,o,cw⟩))(e:lD P ty)(h:K (a.put (cu dst) v) w):Oper.wp P ⟨cu dst,.load ty (.tmp x),t2,p,af,cw⟩ a w K Q:=by
 obtain⟨⟨d,f,i⟩,j⟩:=e;have c:(isAgg ty).run P w=.ok cy w:=by unfold isAgg;rw[lh,yO f w];cases d<;>simp_all [TypeDesc.isRow]
 unfold Oper.wp execOp;simp only[g,Instr.loadAt,Instr.sureAddr,lh,rR,nW,loadVar,c,cZ QU,run_load,hc];exact h
def aiz{F:Fence}(b:Open F){ops:List Oper}(S:St w0 d l L O X w){id:Nat}(f:P.follows .mixedOrders=cx)(e:Hb ops=cx)(c:¬LetsOut Q)(rs:List R4)(g:∀r∈rs,r∈L)(h:∀W,St w0 d l L O X W->wpAnyH P .any ops.toArray Q (SE1 w0 d l rs) ops.toArray.s (Array.replicate ops.toArray.s cy) a W):(Code.region id ops.toArray cx).wpIn F n P Q a w:=
 wpIn_region_any f (Un b c (λ_ ho=>Cf e cN) _ _ _ _ (wpAny_of_held _ _ _ _ (h _ S.drew)))
end
def sa(l:List dL)(own:Nat)(a:List (Fin l.n)):cV:=(a.filter λz=>!decide ((l.get z).cY=own)).map λz=>(l.get z).id
theorem R6(l:List dL)(own:Nat)(a:List (Fin l.n)):(sa l own a).n<=a.n:=by grind[sa]
theorem O0(l:List dL)(own:Nat)(a:List (Fin l.n))(z:Fin l.n):sa l own (a++[z])=sa l own a++if(l.get z).cY=own then [] else [(l.get z).id]:=by unfold sa;grind
def R7(l:List dL)(id own:Nat):(((eM l).filter λs=>decide (s.dB=id)).filter λs=>!decide (s.cY=own)).map dw.id=sa l own (r9 l id l.n):=by rw[EM,filter_map,wO];rfl
section
attribute[local irreducible]wpList Code.wp Calls Oper.wp wpAnyH
def R8(l:List dL)(v:c7)(id:Nat)(hl:l.n<=1000000)(w:cS)(R:gu w v l):
 CallsIn Fence.wide 5 prog 130 #[v,bU ct id] w λe w'=>∃r,e=cj r/\KM w' w.h.s r (x6 (eM l) id)/\dR w w':=by
 obtain⟨ao,cap,rfl,a2,n⟩:=dP R.1;have H:=cz R;have n:=cz n;have q:=cz λW(p:dR w W)=>uk l _ id hl W (R.cP p);have S:=qR w;obtain⟨T,u⟩:=dI (x6 (eM l) id);rw[u];clear R;refine callsIn_of_wp_marks func130 ae iG ?_ ae;simp only[ntmps130,AG,lr,tX,reduceAdd,reduceSub,AH,vE,vF,vG,pN,uG];rcases hp:fj (eM l) id with _|i;rw[hp] at q;obtain rfl:[]=T:=by rw[<-u];unfold x6;rw[hp]
 simp only[lF] at q;clear u hp
 rotate_left
 obtain⟨a5,x,hx,-⟩:=kL hp;have a:=X2 hp hx;rw[u] at a;rw[hp] at q;simp only[lF] at q;clear u hp;obtain⟨b,o,rfl⟩:=n.o cN;have I:=cz (H.o.at hx);have a4:(i:Int)<(l.n:Int):=cN;rcases s:x.dz with _|_;obtain rfl:T=[]:=by rw[a,s];rfl
 clear a
 rotate_left
 . rw[df s,R7] at a;have HT:=cz a;clear a
   gi_upto_region 0 with fail
   refine j9 sP dC vw ?_
   go_wp2_with refine fg λW S=>?_
   gi_upto_region 1 with fail
   refine j9 sP dC vw ?_
   go_wp2_with first|(refine aj (q.o _ S.b) λWC p=>?_;replace S:=S.cP p;clear p)|refine xA S 0 rfl 0 (λ_=>bU cq i) (λj hj=>by have hj:j<1:=hj;obtain rfl:j=0:=cN;rfl) rn rfl rfl rfl DG λWE S=>?_|refine fL ?_|refine fg λW S=>?_
   gi_upto_region 2 with fail
   refine j9 sP dC vw ?_
   go_wp2_with first|(first|refine jm 14 97 2 S 1 0 (bX (s_ b o) l.n cap) ?_|refine jm 15 3 5 S 0 0 (bU cq i) ?_)|(refine mi dC ?_;refine jF (v:=bZ cx) (by rw[<-s];exact(I.o.cP S.b).c2) ae tT ?_)|refine fL ?_
   gi_upto_region 4 with fail
   refine j9 sP dC vw ?_
   go_wp2_with refine fg λW S=>?_
   gi_upto_region 5 with fail
   refine j9 sP dC vw ?_
   go_wp2_with first|(refine aj (DY (s_ b o) l.n cap id _) λM hW=>?_;have HB:=cz (DZ hW);clear hW)|refine fL ?_
   gi_wp2
   replace S:St w cw [] [⟨WE.h.s,78,1,λ_=>bX cw 0 0⟩,⟨WC.h.s,3,1,λ_=>bU cq i⟩,⟨w.h.s,97,1,λ_=>bX (s_ b o) l.n cap⟩] [] (λ_ _=>True) W:=S;obtain⟨p,Q,O,X,a,a6⟩:=HB.o;have A:iA w b=cu 109:=c8.ty H.o.1 ae cN;have U:∀k∈ [W.h.s,W.h.s+1]++(Value.slice (s_ b o) l.n cap).ownBlock.t,(W.h.s<=k∨k<w.h.s)/\∃t,iA M k=cu t/\lS t=cy/\gV t=cy:=by
    intro k m;simp only[Value.ownBlock,Lu,uG,pN,iZ,jK,uH] at m;rcases m with rfl|rfl|rfl
    . exact⟨.inl (eN _),_,X,ae,ae⟩
    . exact⟨.inl (le_succ _),_,a,ae,ae⟩
    . exact⟨.inr (iy A),_,vX (vX A S.b) p,ae,ae⟩
   replace S:=(S.Jl 82 1 ae ae).UE p U;have N:=S.x.2;have a7:w.h.s<=M.h.s:=S.fr.size;refine wpIn_rangeFunc_ownF ae cN (gf:=232) (lb:=#[dE W.h.s 0,dE (W.h.s+1) 0]) ae iG (enters_of func232 dC ae)
    (Gv 4 W.h.s (W.h.s+1) _ l id hl M (H.o.cP S.b) Q O) np.trans (np.wV λk m=>let⟨_,h1,_⟩:=(N k m).2;iy h1) (gJ _ _) (λ_=>ae)
    (λc L=>∃y:Option Addr×Nat,True/\St w cw [] [⟨WE.h.s,78,1,λ_=>bX y.1 (sa l x.cY c).n y.2⟩,⟨WC.h.s,3,1,λ_=>bU cq i⟩,⟨w.h.s,97,1,λ_=>bX (s_ b o) l.n cap⟩] [⟨82,1,bX y.1 (sa l x.cY c).n y.2,(sa l x.cY c).n,KS (sa l x.cY c)⟩] (λB w=>True/\Tg ([W.h.s,W.h.s+1]++(Value.slice (s_ b o) l.n cap).ownBlock.t) B w) L)
    (λ_ _ _=>False)
    (rZ S.fr.size _ _ _ _ λ_ _=>lW.t.and (lW.av _)) (λ_ _ _ _ _ s _ _=>s)
    ⟨(cw,0),iG,S⟩ ?a1 ?assign ?body ?done ?stop
   case assign=>
    intro lp z L K d
    gi_wp2
    exact d
   case body=>
    clear S;rintro lp c z W0 ⟨⟨ya,yc⟩,-,S⟩ a3;replace S:=S.fI;have F:=R6 l x.cY c;have f:=cz (O0 l x.cY c z);obtain⟨Z,E⟩:=dI (sa l x.cY c);rw[E] at S F f;obtain⟨y,Y⟩:=dI (l.get z);rw[Y] at f;have G:l[z.val]?=cu y:=by rw[jE z.isLt,<-Y];rfl
    have J:=cz (H.o.at G);have a8:=z.isLt;have hz:(z.val:Int)<(l.n:Int):=cN;clear G E Y;rcases BG (y.cY=x.cY) with he|he
    . have V:(((y.cY:Nat):Int)!=((x.cY:Nat):Int))=cy:=by rw[vI];omega
      gi_wp2
      refine Aq sP S dC dC vw λW S=>?_;refine dh 0 (bX (s_ b o) l.n cap) ?_;refine dh 1 _ ?_;refine dh 2 (dE b (o+z.val*11)) ?_;refine dh 3 (dE b (o+z.val*11+3)) ?_;refine gZ 4 (bU ct y.cY) ae (gO (λw h=>by obtain⟨_,S⟩:=h;exact(J.o.cP S.b).c3) ae fZ) ?_;refine dh 5 (bX (s_ b o) l.n cap) ?_;refine dh 6 (bU cq i) ?_;refine dh 7 (dE b (o+i*11)) ?_;refine dh 8 (dE b (o+i*11+3)) ?_;refine gZ 9 (bU ct x.cY) ae (gO (λw h=>by obtain⟨_,S⟩:=h;exact(I.o.cP S.b).c3) ae fZ) ?_;refine dh 10 (bZ cy) ?_;refine qx ?_
      gi_wp2
      have m:=S.kept (xh.still (kG _));rw[df he,wR] at f;exact⟨m.1,m.2.1,(ya,yc),iG,by rw[f.o];exact m.2.2⟩
    . have V:(((y.cY:Nat):Int)!=((x.cY:Nat):Int))=cx:=by rw[fJ];omega
      gi_wp2
      refine Aq sP S dC dC vw λW S=>?_;refine dh 0 (bX (s_ b o) l.n cap) ?_;refine dh 1 _ ?_;refine dh 2 (dE b (o+z.val*11)) ?_;refine dh 3 (dE b (o+z.val*11+3)) ?_;refine gZ 4 (bU ct y.cY) ae (gO (λw h=>by obtain⟨_,S⟩:=h;exact(J.o.cP S.b).c3) ae fZ) ?_;refine dh 5 (bX (s_ b o) l.n cap) ?_;refine dh 6 (bU cq i) ?_;refine dh 7 (dE b (o+i*11)) ?_;refine dh 8 (dE b (o+i*11+3)) ?_;refine gZ 9 (bU ct x.cY) ae (gO (λw h=>by obtain⟨_,S⟩:=h;exact(I.o.cP S.b).c3) ae fZ) ?_;refine dh 10 (bZ cx) ?_;refine qx ?_
      gi_upto_region 8 with fail
      refine aiz sP S dC dC vw [⟨w.h.s,97,1,λ_=>bX (s_ b o) l.n cap⟩] CI λW S=>?_;refine dh 1 (bX (s_ b o) l.n cap) ?_;refine dh 2 _ ?_;refine dh 3 (dE b (o+z.val*11)) ?_;refine dh 4 (dE b (o+z.val*11)) ?_;refine gZ 5 (bU ct y.id) ae (gO (λw h=>by obtain⟨_,_,_,S,_⟩:=h;exact(J.o.cP S.b).c0) ae fZ) ?_
      repeat' first|refine Te ?_|refine BE 0 6 (λK d=>?_) λK d=>?_|refine qg 0 λK d=>?_|refine qg 7 λK d=>?_|refine qg 8 λK d=>?_|refine qg 6 λK d=>?_|(refine Zu S [bU ct y.id] vS Ap cN cN ae ae (by intro v hv;obtain rfl:=fM.1 hv;rfl) ae λW S=>?_;replace S:=S.xN (k:=0) ae (g:=λ_=>Value.int ct y.id) (λi C=>by have C:i<1:=C;obtain rfl:i=0:=cN;rfl);refine gq d ?_)|(first|refine ahP (S.cell (k:=1) ae (i:=0) zH) ae Zz ?_;refine gq d ?_)|(refine aiq S 0 ae 0 ae ae ae ae aed (λ_=>ae) CK xZ λg9 c9 W S=>?_;refine gq d ?_)|(refine ajP S 1 ae 0 rn ae ae ae Zz λW S=>?_;refine gq d ?_)|(first|refine ahP (S.cell (k:=0) ae (i:=0) zH) ae Zz ?_;refine gq d ?_)
      all_goals(
      refine cz ?_
      gi_wp2
      have m:=S.kept (xh.still (kG _));rw[cZ he] at f;refine⟨m.1,m.2.1,s_ g9 0,c9,?_⟩;rw[f.o];have S9:=m.2.2.pop;unfold KS;rw[nL,ji];exact(S9.xN (k:=0) ae (g:=λ_=>bX (s_ g9 0) (Z.n+1) c9) λi C=>by have C:i<1:=C;obtain rfl:i=0:=cN;rfl).EY (λ_ _ h=>h.2) (kG _).mh
      )
   case done=>
    clear S;rintro D ys W0 hD rfl ⟨⟨ya,yc⟩,-,S⟩ d;rw[<-HT.o] at S
    gi_upto_region 9 with fail
    gi_upto_region 9 with fail
    refine j9 sP dC vw ?_
    go_wp2_with refine fL ?_
    gi_wp2
    refine D0 S (lW.t.and (lW.av _)) cN d λL S=>?_;exact⟨_,results_tmp ae _ _ _,bX ya T.n yc,ae,S.o0,S.b⟩
   case stop=>
    rintro _ _ _ _ _ _ h _;exact h.elim
 all_goals
  gi_upto_region 0 with fail
  refine j9 sP dC vw ?_
  go_wp2_with refine fg λW S=>?_
  gi_upto_region 1 with fail
  refine j9 sP dC vw ?_
  go_wp2_with first|refine je S (q.o _ S.b) λW S=>?_|refine fL ?_|refine fg λW S=>?_
  gi_upto_region 2 with fail
  refine j9 sP dC vw ?_
  go_wp2_with first|(first|refine jm 14 97 2 S 1 0 (bX (s_ b o) l.n cap) ?_|refine jm 15 3 5 S 0 0 (bU cq i) ?_)|(refine mi dC ?_;refine jF (v:=bZ cy) (by rw[<-s];exact(I.o.cP S.b).c2) ae tT ?_)|refine fL ?_
  gi_wp2
  exact⟨_,results_tmp ae _ _ _,bX cw 0 0,ae,iD _ _ _ _,S.b⟩
end
def O2(l:List dL)(v:c7)(id:Nat)(a:l.n<=1000000)(w:cS)(R:gu w v l):
 CP_ 130 #[v,bU ct id] w λe w'=>∃r,e=cj r/\KM w' w.h.s r (x6 (eM l) id)/\dR w w':=ue.1 (R8 l v id a w R)
def UY(l:List dL)(v:c7)(id:Nat)(a:l.n<=1000000)(w:cS)(R:gu w v l):
 tf 132 #[v,bU ct id] w (bU ct (qV (eM l) id:Nat)):=ue.1 (X1 l v id a w R)
theorem St.aeq{r q:R4}(S:St w0 d l (r::q::L) O X w):St w0 d l (q::r::L) O X w:=by
 have a:(eS (q::r::L) O).Perm (eS (r::q::L) O):=by grind[eS]
 refine⟨S.fr,λx f=>S.row x ?_,S.own,λb c=>S.lo b (a.mem_iff.1 c),a.nodup_iff.2 S.nd,S.mh.mono S.x λk e=>a.mem_iff.1 e,S.mh⟩;grind
def St.nm(_:St w0 d l (⟨b,t,n,f⟩::L) O X w):∃a,b=a:=⟨_,ae⟩
def Mn:prog.built 106 []=cu #[bU cq 0,bU ct 0,bU .u32 0]:=dC
section
variable {a:Act}
end
def KY(n D:Nat)(X:cV->cS->Prop):cV->cS->Prop:=λB w=>X B w/\∀k∈oK w D,n<=k/\k∉B
section
variable {l2:cV}{X':cV->cS->Prop}
theorem yl(h:lO (cu D) X):lO cw (KY n D X):=by refine⟨fun {B w w'} g b=>?_,fun {B w b} g c=>?_,λg a=>⟨h.mono g.1 a,λk d=>⟨(g.2 k d).1,λc=>(g.2 k d).2 (a k c)⟩⟩,fun {B w w' b t} g c hbut ht ho _=>?_,aK⟩;have f:=iy (h.dev g.1 ae).1;exact⟨h.cP g.1 b,by rw[sC (b.block D f)];exact g.2⟩;refine⟨h.add g.1 c,λk d=>⟨(g.2 k d).1,λa=>?_⟩⟩;rcases iZ.1 a with rfl|a;exact ud _ (pM ((h.dev g.1 ae).2 _ d) c);exact(g.2 k d).2 a;(have f:=(h.dev g.1 ae).1;have j:b∉oK w D:=λa=>(g.2 b a).2 c;have i:D≠b:=by rintro rfl;grind[P9]);exact⟨h.but g.1 c hbut ht ho (.inr λl e=>by grind),by rw[sC (hbut.block D (iy f) i)];exact g.2⟩
end
theorem abE(l:Nat->cQ)(k:Nat)(p:cQ)(i:Nat):eV (jd l k p) i=if k*3<=i/\i<k*3+3 then dF p (i-k*3) else eV l i:=by unfold eV jd;grind
theorem Hy{l:Nat->cQ}(h:cM w b 191 24 (eV l))(k:Nat)(p:cQ)(e:w'=w.setCells b (k*3) (cL 3 (dF p)).t):cM w' b 191 24 (eV (jd l k p)):=by rw[e];refine cM.congr (cM.setCells _ _ h) λj c=>?_;unfold KO;rw[mT,cW,abE];by_cases a:k*3<=j/\j<k*3+3;rw[df a,df a];grind[DD];grind
def UZ:kg prog 193 51:=⟨⟨_,underlying193,ae⟩,agl⟩
instance ine6c60 :sE 193 51:=⟨UZ⟩
theorem Gw(y:Way):∀i,i<3->nR y (48+i)=dF y.block i:=λi a=>by unfold nR;grind
theorem MJ(y:Way):∀i,i<24->nR y (0+i)=eV y.first i:=by simp_all[nR]
theorem Kj(y:Way):∀i,i<24->nR y (24+i)=eV y.mG i:=λi a=>by unfold nR;grind
def MK:prog.built 106 []=cu #[bU cq 0,bU ct 0,bU .u32 0]:=dC
section
variable {a:Act}
theorem ixN(c:k<8)(d:a.eval (.tmp x)=bW (cu ⟨E,0,cw⟩))(b:a.eval (.tmp i)=bU cq k)(h:wpList prog ops Q rest (a.put (cu dst) (bW (cu ⟨E,k*3,cw⟩))) w):
 wpList prog ops Q (⟨cu dst,.indexAddr 191 (.tmp x) (.tmp i),t2,p,af,cw⟩::rest) a w:=
 vW (o:=⟨cu dst,.indexAddr 191 (.tmp x) (.tmp i),t2,p,af,cw⟩) ae 191 (.tmp x) (.tmp i) ae (dE E (k*3)) (by grind[yQ]) h
end
def ajX:prog.built 193 []=cu (cL 51 (nR P8)):=dC
def ajY:prog.built 36 []=cu (cL 128 (dg ff)):=dC
theorem ak9{a:Act}(c:k<8)(d:a.eval (.tmp x)=bW (cu ⟨E,o,cw⟩))(b:a.eval (.tmp i)=bU cq k)(h:wpList prog ops Q rest (a.put (cu dst) (bW (cu ⟨E,o+k*3,cw⟩))) w):wpList prog ops Q (⟨cu dst,.indexAddr 191 (.tmp x) (.tmp i),t2,p,af,cw⟩::rest) a w:=
 vW (o:=⟨cu dst,.indexAddr 191 (.tmp x) (.tmp i),t2,p,af,cw⟩) ae 191 (.tmp x) (.tmp i) ae (dE E (o+k*3)) (by grind[Ry]) h
theorem aiA(y:Way)(b:k<8):∀i,i<3->nR y (k*3+i)=dF (y.first k) i:=λi a=>by unfold nR eV;grind
theorem aiB(y:Way)(b:k<8):∀i,i<3->nR y (24+k*3+i)=dF (y.mG k) i:=λi a=>by unfold nR eV;grind
def ajZ:prog.built 191 []=cu (cL 24 (eV mX)):=dC
def aj0:lD prog 45:=⟨⟨_,underlying45,ae⟩,dC⟩
def aj1:lD prog 104:=⟨⟨_,underlying104,ae⟩,dC⟩
def fc.pc{P:Nat}(h:fc w P D M s)(f:Fr (cu D) l w w')(a:P∉l):mf w' P D M s.cR s.base:=cM.fr h.row f aw (.inr a)
def fc.dv'{P:Nat}{d:Dv}(h:fc w P D M s)(c:jN w' D d)(f:Fr (cu D) l w w')(b:P∉l)(a:M∉l):fc w' P D M {s with dv:=d}:=⟨h.pc f b,c,h.map.fr f a,h.ok⟩
def aj2:lD prog 67:=⟨⟨_,underlying67,ae⟩,dC⟩
theorem rI{a:Nat}(c:iA w a=cu t)(d:iA w b=cu u)(h:t≠u):a≠b:=by grind
def fc.ahQ{P:Nat}(h:fc w P D M s)(d:jX M w w'){m:Nat->Nat}(b:fB w' M m):fc w' P D M {s with mp:=m}/\Fr cw [M] w w':=by have a:Fr cw [M] w w':=Fr.rS d (cM.ty h.map) ae (fM.2 ae);have c:P∉ [M]:=λb=>rI (cM.ty h.row) (cM.ty h.map) kB (fM.1 b);exact⟨⟨cM.fr h.row a aD (.inr c),h.dev.fr a,b,h.ok⟩,a⟩
theorem fc.aj3{P:Nat}(h:KY 0 D (C' P D M s) B w)(b:jX M w w'){m:Nat->Nat}(d:fB w' M m):KY 0 D (C' P D M {s with mp:=m}) B w'/\Fr cw [M] w w':=by have a:=fc.ahQ h.1 b d;have c:=fc.dlt h.1 D ae;refine⟨⟨a.1,?_⟩,a.2⟩;rw[sC (b.block D (iy c) (by rintro rfl;have:=fc.tyM h.1;grind))];exact h.2
def agN:zeroCells36=cL 128 (dg []):=Rn
section
attribute[local irreducible]wpList Code.wp Calls Oper.wp wpAnyH
theorem Hz(a:Way)(q:cQ)(i:Nat)(hi:i<64)(N:gE)(hN:N=cL 51 (nR a))(w:cS):
 CP_ 143 #[bV N,mO q,bU cq i] w λe w'=>∃v,e=cj v/\il w' w.h.s v (lI a q i)/\dR w w':=by
 obtain⟨A,E⟩:=fP (cL 3 (dF q));rw[dk E];obtain⟨h,z⟩:=dI (i/8);have B:h<8:=cN;have x:(i:Int)/8=(h:Int):=cN;obtain⟨I,j⟩:=yB (cL 3 (dF a.block));obtain⟨J,l⟩:=yB (cL 3 (dF (a.first h)));obtain⟨L,G⟩:=fP ([a.block,a.first h,q]);have u:L.n=3:=by rw[G];rfl
 obtain⟨X,HX⟩:=yB (cL 9 (eV λi=>L.getD i cX));have K:=cz (show prog.built 278 [(0,bV I),(1,bV J),(2,bV A)]=cu X by rw[j.o,l.o,E,HX.o,G];exact adL _ _ _);have Q:=cz (show lI a q i=L.filter λp=>decide (p≠cX) by unfold lI;rw[G,z]);have M:=cz x;have HA:=cz E;have HN:=cz hN;have o:=cz u;have S:=qR w;clear E hN G u x z;go_enter func143,ntmps143;go_upto_region 2 with(first|refine yZ S rfl HN.o rfl λW1 S=>?_|refine fg λW S=>?_);have hR:=S.k1;refine eu S dC λW S=>?_;refine dh 0 (dE w.h.s 48) ?_;refine gZ 1 (bV I) ae (wB dC 106 (.tmp 10) nz w.h.s 48 nz I _ (λw H=>Rz anQ j.o) Al ae (by rw[j.o,cW];exact kx)) ?_;refine dh 2 _ ?_;refine gZ 3 (bU cq h) ae (Or.inl ⟨dC,λw H=>by have h1:=M.o;go_simp;exact kS _ cN⟩) ?_;refine dh 4 (dE w.h.s 0) ?_;refine gZ 5 (dE w.h.s (h*3)) ae (Md dC 191 (.tmp 14) (.tmp 13) nz _ (λww=>yQ w.h.s h B ww)) ?_;refine gZ 6 (bV J) ae (wB dC 106 (.tmp 15) nz w.h.s (h*3) nz J _ (λw H=>Rx anQ B l.o) Al ae (by rw[l.o,cW];exact kx)) ?_;refine dh 7 (bV A) ?_;refine gZ 8 (bV X) ae (y8 ae K.o) ?_;refine dh 9 _ ?_;refine qx ?_;replace S:=((S.pop).pop).Jl 106 3 ae ae;have S:=cz S;go_wp2_with fail;go_loopw [7,19] (λv c wr=>∃(k:Nat)(R:Option Addr)(T:Nat)(m:List cQ)(Ls:List R4),k<=3/\c=bU cq k/\m.n<=k/\v=bX R m.n T/\Hid ((L.take k).filter (λp=>decide (p≠cX))=m/\St w cw [] Ls [⟨106,3,bX R m.n T,m.n,iS m⟩] (λ_ _=>True) wr)) (λ_ c _=>3-(intOf c).m);exact⟨0,cw,0,[],_,gw _,ae,eN _,ae,ae,S.o⟩;clear S;obtain⟨k,R,T,m,Ls,hk,rfl,a2,rfl,hrel⟩:=hrel;obtain⟨hm,S⟩:=hrel.o;have Y:=cz hm;clear hrel hm;by_cases D:k<3
 . (have V:k<L.n:=by rw[o.o];exact D);(have d:=zX (λp=>decide (p≠cX)) L V;obtain⟨p,hp⟩:=dI (L[k]);have y:L.getD k cX=p:=by grind);rw[hp,Y.o] at d;obtain⟨C,F⟩:=fP (cL 3 (dF p));have g:=λW=>Uc (λi=>L.getD i cX) k D W;rw[<-HX.o] at g;simp only[y,<-F] at g;have n:=cz g;obtain⟨b,U⟩:=dI (decide (p=cX));have f:=λW=>F9 p cX b U W;rw[dk F,show mO cX=bV #[Value.int cq 0,bU ct 0,bU .u32 0] from ae] at f;have HC:=cz F;have t:=cz d;have Z:=cz f;have r:=cz U;have a1:m.n<=3:=cN;clear d g y hp F f U;cases b with|true=>have d:=t.o;rw[cZ (by simp[l6 r.o]),wR] at d;have s:=cz d;clear d;have O:=Z.o;go_wp2_with (first|refine J7 ae ae n.o ?_|refine fL ?_|refine fg λW S=>?_);go_roundw;grind;exact pR|false=>have d:=t.o;rw[df (by simp[yw r.o])] at d;have s:=cz d;clear d;have O:=Z.o;go_wp2_with (first|refine J7 ae ae n.o ?_|refine tA S 0 rfl 0 rfl rfl rfl rfl gX (dJ _) CK xZ λg9 c9 W S=>?_|refine fL ?_|refine fg λW S=>?_);go_roundw;exact⟨k+1,s_ g9 0,c9,m++[p],_,cN,by go_num,by simp;omega,by simp,s.o,by rw[ji,jk,qe];exact S⟩;exact pR
 . obtain rfl:k=3:=cN;go_wp2;go_ret;refine⟨_,ae,?_,S.b⟩;rw[Q.o];have h9:=Y.o;rw[nU (by rw[o.o];exact eN _)] at h9;rw[h9];exact S.o0
def z8(P D M:Nat)(s:Pl)(q:cQ)(hq:dD q)(w:cS)(h:fc w P D M s):
 CP_ 110 #[bW (cu ⟨P,0,cw⟩),mO q] w λe w'=>∃B,e=cj (cg #[bV B,bU cq (gr s q).2.2])/\B=cL 128 (dg (gr s q).2.1)/\fc w' P D M (gr s q).1/\Fr (cu D) [] w w':=by
 obtain⟨A,I⟩:=fP (cL 3 (dF q));have k:=dk I;have S:=St.start w (cu D) [] (dQ P D M s) h;have H0:=cz h;obtain⟨T,J⟩:=dI (gr s q);have a:=cz J;unfold gr at a;rw[J,k];have HA:=cz I;obtain⟨o,j⟩:=fP (cL 128 (dg ff));have a1:=cz j;have c:=cz (show prog.built 36 []=cu o by rw[j];exact ajY);obtain⟨Y,l⟩:=dI (decide (q=cX));have L:=F8 q cX Y l;obtain⟨H,g⟩:=fP (cL 3 (dF cX));rw[k,dk g] at L;have m:=cz (show prog.built 106 []=cu H by rw[g,<-iO];exact MK);have n:=cz l;have F:=cz λW(X:jN W D s.dv)=>ahI D s.dv (q.1:Int) (by have:=hq.1;unfold fh;omega) W X;have d:=Je h.dev.ok (q.1:Int);obtain⟨r,V⟩:=dI (ik s.dv (q.1:Int));rw[V] at F a d;obtain⟨d1,bs,p⟩:=r;simp only at F a d;have G:=cz d;clear I h J j l g k V d;go_enter func110,ntmps110;cases Y with
 |true=>rw[df (l6 n.o)] at a;obtain rfl:=a.o;go_wp2_with first|refine lE (cells:=H) ae m.o ?_|refine lE (cells:=o) ae c.o ?_|(refine mA ?_;exact⟨_,ae,ae,S.x,S.fr⟩)|refine fL ?_|refine fg λW S=>?_
 |false=>
  rw[cZ (yw n.o)] at a;obtain⟨B,R⟩:=fP (cL 128 (dg bs));have Q:=cz R;have O:=cz λu W hu=>WY u bs W hu;obtain⟨cr,x⟩:=dI (kU bs);rw[x] at O a;obtain⟨Z,y⟩:=dI (((cr:Int)!=((q.2.2:Nat):Int)));have f:=cz y;clear R x y
  go_upto_region 3 with(first|refine lE (cells:=H) ae m.o ?_|refine fL ?_|refine fg λW S=>?_)
  refine eR S dC [⟨w.h.s,106,3,dF q⟩] CI λW S=>?_;refine dh 0 _ ?_;refine dh 1 (dE P 0) ?_;refine dh 2 (dE P 0) ?_;refine gZ 3 (dE D 0) ae (gO (λw h=>(H0.o.pc h.fr eQ).cells.1) ae aj0) ?_;refine dh 4 (dE w.h.s 0) ?_;refine dh 5 (bU cq q.1) ?_
  repeat' first|refine Te ?_|refine nA 7 _ ?_|refine nA 8 (bV B) ?_|refine nA 9 (bU cq p) ?_|refine nA 12 _ ?_|refine BE 6 10 (λK b=>?_) λK b=>?_|refine qg 10 λK b=>?_|refine qg 6 λK b=>?_|refine qg 11 λK b=>?_|(go_wp2_with fail;refine(F.o _ S.x.dev).mono ?_;rintro e W ⟨B1,rfl,v,U,N⟩;obtain rfl:B=B1:=Q.o.trans v.symm;replace S:=S.call N ax eQ (dQ P D M {s with dv:=d1}) (λB h=>fc.dv' h U N eQ eQ);clear v U N;refine gq b ?_;clear b K)|(refine gl (dst:=6) S zeroValue36 vU ae λE6 W S=>?_;refine gq b ?_;clear b K)|(refine kq S 0 ae ae ae Q.o Cd (jC _) λW S=>?_;refine gq b ?_;clear b K)
  all_goals(
   refine cz ?_;by_cases t:p=41
   case pos=>
    subst t;rw[df ae] at a;obtain rfl:=a.o
    go_wp2_with first|refine lE (cells:=o) ae c.o ?_|(refine mA ?_;exact⟨_,ae,ae,S.x,S.fr⟩)|refine fg λW S=>?_
   have g2:(p==41)=cy:=by rw[lR];exact t
   rw[cZ t] at a;by_cases z:p=0
   case neg=>
    have g4:(p !=0)=cx:=fJ.2 z;rw[df z] at a;obtain rfl:=a.o;clear t z
    go_wp2_with first|refine lE (cells:=o) ae c.o ?_|(refine mA ?_;exact⟨_,ae,ae,S.x,S.fr⟩)|refine fg λW S=>?_
   subst z;rw[cZ (λh=>h ae)] at a;clear t g2
   go_upto_region 8 with(fail)
   refine eR S dC [⟨w.h.s,106,3,dF q⟩] CI λW S=>?_;refine dh 0 (bX (s_ E6 0) 128 128) ?_;refine dh 2 (dE w.h.s 2) ?_;refine gZ 3 (bU .u32 q.2.2) ae (gO (λw h=>cM.cell (h.row 0 ae) (i:=2) rn) ae aj1) ?_;refine kI 1 λK b=>?_
   go_wp2_with fail
   have E:=S.k0;have E:=lN.ints (lN.sec E G.o);refine mY (O.o _ _ E) ?_;clear E;refine gq b ?_;clear b K;refine gZ 4 (bZ Z) ae (Or.inl ⟨dC,λw hw=>by have C:=f.o;go_simp⟩) ?_;refine dh 5 _ ?_;refine qx ?_;cases Z with
   |true=>
    rw[df (by have C:=f.o;rw[fJ] at C;omega)] at a;obtain rfl:=a.o
    go_wp2_with (first
   |refine lE (cells:=o) ae c.o ?_
   |(refine mA ?_;exact⟨_,ae,ae,S.x,S.fr⟩)
   |refine fg λW S=>?_)
   |false=>
    rw[cZ (by have C:=f.o;rw[vI] at C;omega)] at a;obtain rfl:=a.o
    go_wp2_with first|(refine mA ?_;exact⟨_,ae,ae,S.x,S.fr⟩)|refine fL ?_|refine fg λW S=>?_
  )
def Fs(P D M:Nat)(s:Pl)(ho:s.dv.ops<=1000000000)(i:Int)(F:fh i)(T:dU)(v:c7)(b:cV)(y:b.n<=128)(w:cS)(h:fc w P D M s)(C:lN w T v b):
 CP_ 184 #[bW (cu ⟨P,0,cw⟩),bU cq i,v] w λe w'=>e=cj (cg #[mO (ky s i b).2.1,bU cq (ky s i b).2.2])/\fc w' P D M (ky s i b).1/\Fr (cu D) [] w w':=by
 have S:=St.start w (cu D) [] ((dQ P D M s).sl T 1 v b.n (ej b)) ⟨h,C.1,λ_ _ _=>by simp⟩;have H0:=cz h;have HV:=cz C.2;obtain⟨U,R⟩:=dI (ky s i b);have a:=cz R;unfold ky at a;rw[R];have l:=G6 y C.2;obtain⟨A,Q⟩:=fP (cL 128 (dg b));have G:=cz λW(X:jN W D s.dv)=>ad3 D s.dv ho i (pF b) l A (Q.trans T9) W X;have F:=Ru (d:=s.dv) (i:=i) (s:=pF b);obtain⟨r,z⟩:=dI (iq s.dv i (pF b));rw[z] at G a F;obtain⟨d1,c1⟩:=r;simp only at G a F;have Z:=cz λu W H=>WY u (pF b) W H;obtain⟨O,m⟩:=dI (kU (pF b));rw[m] at Z a;have J:=cz l;have Y:=cz Q;have V:=y;obtain⟨U,j⟩:=fP (cL 3 (dF cX));have N:=cz j;have H:=cz (show prog.built 106 []=cu U by rw[j,<-iO];exact MK);have I:=cz y;clear h R z l m Q j y V C;go_enter func184,ntmps184;go_upto_region 3 with(first|refine jb 8 36 S zeroValue36 agN λW S=>?_|refine uU S xC iO rfl λo S=>?_|refine Uj S 0 (s:=[]) (bs:=b) rfl (q:=0) rfl ⟨S.x.2.1,HV.o⟩ (by show 0+b.n<=128;have:=I.o;omega) I.o oT CE rfl rfl λW S=>?_);replace S:=S.EY (X':=C' P D M s) (λB w h=>h.1) (dQ P D M s);rw[pN] at S;refine eR S dC [⟨o.h.s,36,128,dg b⟩] CI λW S=>?_;refine dh 0 _ ?_;refine dh 1 (dE P 0) ?_;refine dh 2 (dE P 0) ?_;refine gZ 3 (dE D 0) ae (gO (λw h=>(H0.o.pc h.fr eQ).cells.1) ae aj0) ?_;refine dh 4 _ ?_;refine gZ 5 (bV A) ae (rE (b:=o.h.s) (t:=36) (n:=128) (f:=dg b) aI ae Y.o Cd) ?_;refine kI 6 λK c=>?_;go_wp2_with fail;refine(G.o _ S.x.dev).mono ?_;rintro e W ⟨rfl,G,Y⟩;replace S:=S.call Y ax eQ (dQ P D M {s with dv:=d1}) (λB h=>fc.dv' h G Y eQ eQ);clear G Y;refine gq c ?_;clear c K;refine dh 7 _ ?_;refine qx ?_;by_cases p:c1=0;case neg=>have G:(c1 !=0)=cx:=fJ.2 p;rw[cZ p] at a;obtain rfl:=a.o;clear p;go_wp2_with first|refine js 106 6 22 S 1 N.o (dJ _) λW S=>?_|refine lE (cells:=U) ae H.o ?_|(refine oY S 1 ae ae ae fK ae ?_;exact⟨by rw[dk (q:=cX) ae];rfl,S.x,S.fr⟩)
 subst p;rw[df ae] at a;obtain⟨k,rfl⟩:∃k:Nat,i=(k:Int):=⟨i.m,by have:=(F ae).1;omega⟩;rw[tZ] at a;obtain rfl:=a.o;obtain⟨G,g⟩:=fP (cL 3 (dF (k,s.cR,O)));have L:=cz g;have I:=cz (show prog.built 106 [(0,bU cq k),(1,bU ct s.cR),(2,bU .u32 O)]=cu G by rw[g];kernel_rfl);clear g F;go_upto_region 6 with(fail);refine eR S dC [] (by intro r z;cases z) λW S=>?_;refine dh 0 _ ?_;refine dh 1 _ ?_;refine dh 2 (dE P 0) ?_;refine dh 3 (dE P 2) ?_;refine gZ 4 (bU ct s.cR) ae (gO (λw h=>(H0.o.pc h.fr eQ).cells.2.2.1) ae fZ) ?_;refine dh 5 (bX (s_ o.h.s 0) 128 128) ?_;refine kI 6 λK c=>?_;go_wp2_with fail;have x:=S.k0;have x:=lN.ints (lN.sec (s:=pF b) (E:=o.h.s) (by unfold cM;rw[<-T9];exact x) J.o);refine(Z.o _ _ x).mono ?_;rintro e W ⟨rfl,rfl⟩;clear x;refine gq c ?_;clear c K;refine gZ 7 (bV G) ae (y8 ae I.o) ?_;refine kI 8 λK c=>?_;refine kq S 1 ae ae ae L.o fK (dJ _) λW S=>?_;refine gq c ?_;clear c K;refine dh 9 _ ?_;refine qx ?_;go_wp2_with first|(refine oY S 1 ae ae ae fK ae ?_;exact⟨by rw[dk (q:=(k,s.cR,O)) ae];rfl,S.x,S.fr⟩)
def Kk(P D M:Nat)(s:Pl)(ho:s.dv.ops<=1000000000)(T:dU)(G:T≠206)(v:c7)(b:cV)(w:cS)(h:fc w P D M s)(N:lN w T v b):
 CP_ 141 #[bW (cu ⟨P,0,cw⟩),v] w λe w'=>e=cj (cg #[mO (tu s b).2.1,bU cq (tu s b).2.2])/\fc w' P D M (tu s b).1/\Fr (cu D) [M] w w':=by
 obtain⟨H,z,rfl,F,F⟩:=N.form;obtain⟨V,F⟩:=fP (Value.slice H b.n z);have S:=St.start w (cu D) [M] ((dQ P D M s).sl T 1 V b.n (ej b)) ⟨h,by rw[F];exact N.1,λ_ _ _=>by simp⟩;have H:=cz h;have HB:=cz N.2;have Q:=cz G;obtain⟨U,Z⟩:=dI (tu s b);have a:=cz Z;unfold tu at a;rw[Z];obtain⟨K,m⟩:=fP (cL 3 (dF cX));have l:=cz m;have j:=cz (show prog.built 106 []=cu K by rw[m,<-iO];exact MK);have I:=cz λW(X:fB W M s.mp)=>P6 M s.mp W X;have U:=cz F;clear h N Z m F G;by_cases L:b.n>128
 . rw[df L] at a;obtain rfl:=a.o;have F:decide ((b.n:Int)>128)=cx:=gM cN;go_enter func141,ntmps141;go_wp2_with first|(first|refine jb 4 106 S xC iO λW S=>?_|refine js 106 4 12 S 0 l.o (dJ _) λW S=>?_)|refine lE (cells:=K) ae j.o ?_|(refine oY S 0 ae ae ae fK ae ?_;exact⟨by rw[dk (q:=cX) ae];rfl,S.x.1,S.fr⟩)
 rw[cZ L] at a;have Z:=cz (Nat.le_of_not_lt L);have F:decide ((b.n:Int)>128)=cy:=jG cN;clear L;go_enter func141,ntmps141;go_upto_region 3 with(first|refine uU S xC iO rfl λF S=>?_)
 cases n:nG s.mp with
 |none=>obtain⟨u,x,y⟩:=L7 n;rw[n] at a;obtain rfl:=a.o;have d:=cz I.o;rw[u,x,y] at d;clear u x y n;have C:=S.x.1.row.cells.2.1;go_wp2_with first|refine js 106 4 23 S 0 l.o (dJ _) λW S=>?_|(refine(d.o _ S.x.1.map).mono ?_;rintro e W ⟨rfl,f,c⟩;clear C;replace S:=S.call (S.x.1.yS f c).2 aK (λk G=>.inl G) (dQ P D M s) (λB X=>(X.1.yS f c).1);clear f c)|refine lE (cells:=K) ae j.o ?_|(refine oY S 0 ae ae ae fK ae ?_;exact⟨by rw[dk (q:=cX) ae];rfl,S.x,S.fr⟩)
 |some i=>
  obtain⟨F,J,-,-⟩:=qv n;have H:sQ (kC s.mp i 2) (i:Nat) 2 1=s.mp:=by unfold sQ isB;rw[df (gM ⟨cN,cN,by rw[tZ,Jb]⟩),tZ];exact aa5 J
  have N:=cz λW(X:fB W M (kC s.mp i 2))=>T5 M (kC s.mp i 2) (i:Nat) aW W X;rw[H] at N;clear H J;obtain⟨u,x,y⟩:=Gi n;rw[n] at a;have d:=cz I.o;rw[u,x,y] at d;have o:=cz λW(X:fc W P D M {s with mp:=kC s.mp i 2})(Y:lN W T V b)=>Fs P D M {s with mp:=kC s.mp i 2} ho (i:Nat) aW T V b Z.o W X Y;clear u x y n F;have H:ky {s with mp:=kC s.mp i 2} (i:Nat) b=({(ky s (i:Nat) b).1 with mp:=kC s.mp i 2},(ky s (i:Nat) b).2):=rfl;have g:(ky s (i:Nat) b).1.mp=s.mp:=rfl;rw[H] at o;obtain⟨r,F⟩:=dI (ky s (i:Nat) b);simp only[F] at o a g;clear H F;obtain⟨s',q,H⟩:=r;simp only at o a g;obtain⟨A,R⟩:=fP (cL 3 (dF q));rw[dk R] at o;have t:=cz R;have O:=cz g;clear R g;have C:=S.x.1.row.cells.2.1;go_upto_region 4 with(first|(go_at_call 183;refine(d.o _ S.x.1.map).mono ?_;rintro e W ⟨rfl,f,c⟩;clear C;replace S:=S.call (S.x.1.yS f c).2 aK (λk G=>.inl G) ((dQ P D M {s with mp:=kC s.mp i 2}).sl T 1 V b.n (ej b)) (λB X=>⟨(X.1.yS f c).1,X.2.1.but c X.1.tyM (pU Q.o),X.2.2⟩);clear f c));have p:=cz o;clear o;by_cases E:H=0
  . rw[df E] at a;obtain rfl:=a.o;subst E;go_wp2_with first|refine jr 42 106 8 S 0 t.o ?_|refine js 106 4 42 S 1 t.o (dJ _) λW S=>?_|(rw[<-U.o];refine(p.o _ S.x.1 ⟨S.x.2.1,HB.o⟩).mono ?_;rintro e W ⟨rfl,I,F⟩;replace S:=S.call F (λ_ e=>e) aK (dQ P D M {s' with mp:=kC s.mp i 2}) (λB _=>I);clear I F)|refine oX S rfl rfl t.o fK rfl (by rfl) (dJ _) λW S=>?_|(refine oY S 1 ae ae ae fK ae ?_;exact⟨by rw[t.o];rfl,S.x,S.fr⟩)
  . have J:(H !=0)=cx:=fJ.2 E;rw[cZ E] at a;obtain rfl:=a.o;clear E;go_wp2_with first|refine js 106 4 40 S 1 l.o (dJ _) λW S=>?_|(go_at_call 184;rw[<-U.o];refine(p.o _ S.x.1 ⟨S.x.2.1,HB.o⟩).mono ?_;rintro e W ⟨rfl,I,F⟩;replace S:=S.call F (λ_ e=>e) aK (dQ P D M {s' with mp:=kC s.mp i 2}) (λB _=>I);clear I F)|((with_reducible refine tM 106 8 30 ?_);refine oX S ae ae t.o fK ae (by rfl) (dJ _) λW S=>?_;have C:=S.x.row.cells.2.1)|(go_at_call 179;refine(N.o _ S.x.map).mono ?_;rintro e W ⟨rfl,f,c⟩;clear C;replace S:=S.call (S.x.yS f c).2 aK (λk G=>.inl G) (dQ P D M s') (λB X=>by have F:=(X.yS f c).1;rw[<-O.o] at F;exact F);clear f c)|((with_reducible refine zZ 40 106 ?_);refine lE (cells:=K) ae j.o ?_)|((with_reducible refine s6 ?_);go_must (refine oY S 1 ae ae ae fK ae ?_;exact⟨by rw[dk (q:=cX) ae];rfl,S.x,S.fr⟩))
def Au(P D M:Nat)(s:Pl)(ho:s.dv.ops<=1000000000)(i:Int)(G:fh i)(T:dU)(v:c7)(b:cV)(w:cS)(h:fc w P D M s)(o:lN w T v b):
 CP_ 259 #[bW (cu ⟨P,0,cw⟩),bU cq i,v] w λe w'=>e=cj (cg #[mO (eW s i b).2.1,bU cq (eW s i b).2.2])/\fc w' P D M (eW s i b).1/\Fr (cu D) [] w w':=by
 obtain⟨Q,j,rfl,Z,F⟩:=o.form;obtain⟨V,x⟩:=fP (Value.slice Q b.n j);have S:=St.start w (cu D) [] ((dQ P D M s).sl T 1 V b.n (ej b)) ⟨h,by rw[x];exact o.1,λ_ _ _=>by simp⟩;have I:=cz o.2;have K:=cz G;obtain⟨U,u⟩:=dI (eW s i b);have c:=cz u;unfold eW at c;rw[u];obtain⟨p,d⟩:=fP (cL 3 (dF cX));have O:=cz d;have g:=cz (show prog.built 106 []=cu p by rw[d,<-iO];exact MK);have G:=cz λW(X:fB W M s.mp)=>Jh M s.mp W X;have N:=cz x;clear h o u d x;by_cases n:b.n>128;rw[df n] at c;obtain rfl:=c.o;have F:decide ((b.n:Int)>128)=cx:=gM cN;go_enter func259,ntmps259;rotate_left;rw[cZ n] at c;have L:=cz (Nat.le_of_not_lt n);have m:=cz λW(X:fc W P D M s)(Y:lN W T V b)=>Fs P D M s ho i K.o T V b L.o W X Y;obtain⟨z,y⟩:=dI (Q0 (lq s.mp 2) i);have f:=y;rw[aa6] at f;have J:=cz λa r W(H:nX W a r (lq s.mp 2))=>y▸afX r _ i W (L8 H);have F:decide ((b.n:Int)>128)=cy:=jG cN;clear n y;go_enter func259,ntmps259;go_upto_region 3 with(refine fg λW S=>?_);have R:=S.x.1.row.cells.2.1;rcases z with _|_;rw[cZ (yw f.symm.symm)] at c;obtain rfl:=c.o;rotate_left;rw[df (l6 f)] at c;obtain⟨s',q,F⟩:=U;rw[c.o] at m;obtain⟨A,t⟩:=fP (cL 3 (dF q));simp only at m;rw[dk t] at m;have H:=cz t;clear t
 all_goals
  go_wp2_with first|refine lE (cells:=p) ae g.o ?_|(refine(G.o _ S.x.1.map).mono ?_;rintro e W ⟨F,rfl,l,k⟩;have C:=cz (J.o _ _ _ l);clear R l;replace S:=S.cP k;clear k)|(refine C.o.mono ?_;rintro e W ⟨rfl,k⟩;clear C;replace S:=S.cP k;clear k)|refine lE (cells:=p) ae g.o ?_|(rw[<-N.o];refine(m.o _ S.x.1 ⟨S.x.2.1,I.o⟩).mono ?_;rintro e W ⟨rfl,F,E⟩;replace S:=S.call E (λ_ e=>e) aK (dQ P D M s') (λB _=>F);clear F E)|refine fg λW S=>?_|(refine mA ?_;exact⟨by rw[dk (q:=cX) ae];rfl,S.x.1,S.fr⟩)|(refine mA ?_;exact⟨by rw[H.o];rfl,S.x,S.fr⟩)
def H7(P D M:Nat)(s:Pl)(q:cQ)(E:dD q)(w:cS)(h:fc w P D M s):
 CP_ 135 #[bW (cu ⟨P,0,cw⟩),mO q] w λe w'=>e=cj (bU cq (qd s q).2)/\fc w' P D M (qd s q).1/\Fr cw [M] w w':=by
 obtain⟨A,p⟩:=fP (cL 3 (dF q));have d:=dk p;have S:=St.start w cw [M] (yl (n:=0) (dQ P D M s)) ⟨h,λk C=>⟨gw _,by simp⟩⟩;have m:Hid (∀W,Fr cw [M] w W->mf W P D M s.cR s.base):=cz λW f=>cM.fr h.row f aD (.inr (by rw[fM];exact h.ne));have H:=cz λW(X:fB W M s.mp)=>T5 M s.mp (q.1:Int) (by have:=E.1;unfold fh;omega) W X;have I:=cz λW(X:fB W M s.mp)=>aaY M s.mp (q.1:Int) (by have:=E.1;unfold fh;omega) W X;obtain⟨T,r⟩:=dI (qd s q);have a:=cz r;unfold qd at a;rw[r,d];have J:=cz p;obtain⟨F,g⟩:=dI (decide (q=cX));have u:=F8 q cX F g;obtain⟨o,c⟩:=fP (cL 3 (dF cX));rw[d,dk c] at u;have i:=cz (show prog.built 106 []=cu o by rw[c,<-iO];exact MK);have j:=cz g;clear p h r g c d;go_enter func135,ntmps135;cases F with
 |true=>rw[df (l6 j.o)] at a;obtain rfl:=a.o;go_wp2_with (first|((with_reducible refine zZ 7 106 ?_);refine lE (cells:=o) ae i.o ?_)|refine fL ?_|refine fg λW S=>?_);go_ret;exact⟨ae,S.x.1,S.fr⟩
 |false=>
  rw[cZ (yw j.o)] at a;go_upto_region 3 with(first|((with_reducible refine zZ 7 106 ?_);refine lE (cells:=o) ae i.o ?_)|refine fL ?_|refine fg λW S=>?_);obtain⟨G,l⟩:=dI (decide (s.base<q.2.1));have b:=cz l;clear l;refine eR S dC [⟨w.h.s,106,3,dF q⟩] CI λW S=>?_;refine dh 0 (dE w.h.s 1) ?_;refine dh 1 (bU ct q.2.1) ?_;refine dh 2 _ ?_;refine dh 3 (dE P 0) ?_;refine dh 4 (dE P 3) ?_;refine gZ 5 (bU ct s.base) ae (gO (λw h=>(m.o _ h.fr).cells.2.2.2) ae fZ) ?_;refine gZ 6 (bZ G) ae (Or.inl ⟨dC,λw L=>by have x:=b.o;go_simp⟩) ?_;refine dh 7 _ ?_;refine qx ?_;rcases G with _|_;rw[cZ (by have x:=yw b.o;omega)] at a;obtain rfl:=a.o;go_upto_region 5 with(fail);rotate_left;rw[df (by have x:=l6 b.o;omega)] at a;obtain rfl:=a.o;go_upto_region 4 with(fail)
  all_goals
   refine eR S dC [⟨w.h.s,106,3,dF q⟩] CI λW S=>?_
   first|refine dh 0 _ ?_|refine dh 0 _ ?_
   first|refine dh 1 (dE P 0) ?_|refine dh 1 (dE P 0) ?_
   first|refine dh 2 (dE P 1) ?_|refine dh 2 (dE P 1) ?_
   first|refine gZ 3 (dE M 0) ae (gO (λw h=>(m.o _ h.fr).cells.2.1) ae aj2) ?_|refine gZ 3 (dE M 0) ae (gO (λw h=>(m.o _ h.fr).cells.2.1) ae aj2) ?_
   first|refine dh 4 (dE w.h.s 0) ?_|refine dh 4 (dE w.h.s 0) ?_
   first|refine dh 5 (bU cq q.1) ?_|refine dh 5 (bU cq q.1) ?_
   refine kI 6 λK y=>?_
   go_wp2_with fail
   first|refine(I.o _ S.x.1.map).mono ?_|refine(H.o _ S.x.1.map).mono ?_
   rintro e W ⟨rfl,v,t⟩;have z:=(fc.aj3 S.x t v).2;replace S:=S.call z aK (λk C=>.inl C) (yl (dQ P D M {s with mp:=_})) (λB X=>(fc.aj3 X t v).1);clear v t z;refine gq y ?_;clear y K;refine dh 7 _ ?_;refine qx ?_;go_wp2;go_ret;exact⟨ae,S.x.1,S.fr⟩
def x7(P D M:Nat)(s:Pl)(q:cQ)(G:dD q)(w:cS)(h:fc w P D M s):
 CP_ 155 #[bW (cu ⟨P,0,cw⟩),mO q] w λe w'=>∃N,e=cj (cg #[bV N,bU cq (du s q).2.2])/\N=cL 24 (eV (du s q).2.1)/\fc w' P D M (du s q).1/\Fr (cu D) [] w w':=by
 obtain⟨A,n⟩:=fP (cL 3 (dF q));have d:=dk n;have S:=St.start w (cu D) [] (dQ P D M s) h;obtain⟨T,p⟩:=dI (du s q);have a:=cz p;have i:=cz λW(X:fc W P D M s)=>z8 P D M s q G W X;have b:=DC h.dev.ok q;unfold du at a;rw[p,d];rw[d] at i;obtain⟨r,z⟩:=dI (gr s q);rw[z] at i a b;obtain⟨s1,bs,t⟩:=r;simp only at i a b;obtain⟨B,o⟩:=fP (cL 128 (dg bs));have j:=cz λW=>Ca bs b B o W;have E:=cz o;have H:=cz n;obtain⟨m,c⟩:=fP (cL 24 (eV mX));have F:=cz c;have f:=cz (show prog.built 191 []=cu m by rw[c];exact ajZ);clear n h p z d b o c;go_enter func155,ntmps155;go_upto_region 2 with(first|(refine(i.o _ S.x).mono ?_;rintro e W ⟨C,rfl,g,y,x⟩;obtain rfl:B=C:=E.o.trans g.symm;replace S:=S.call x ax eQ (dQ P D M s1) (λB h=>y);clear g y x)|refine fL ?_|refine fg λW S=>?_);by_cases k:t=0;case neg=>have J:(t !=0)=cx:=fJ.2 k;rw[df k] at a;obtain rfl:=a.o;clear k;go_wp2_with first|refine lE (cells:=m) ae f.o ?_|(refine mA ?_;exact⟨_,ae,ae,S.x,S.fr⟩)|refine fg λW S=>?_
 subst k;rw[cZ (λh=>h ae)] at a;rcases hn:pZ bs with _|l;rotate_left
 all_goals
  rw[hn] at a j
  first|simp only[gi,Option.isSome_none] at a j|simp only[gi,Option.isSome_some,oR,lx] at a j
  obtain rfl:=a.o;clear hn
  go_wp2_with first|(refine(j.o _).mono ?_;rintro e W ⟨N,rfl,u,v⟩;have I:=cz u;replace S:=S.cP v;clear u v)|refine lE (cells:=m) ae f.o ?_|refine fL ?_|refine fg λW S=>?_|(refine mA ?_;exact⟨_,ae,ae,S.x,S.fr⟩)
def vg(P D M:Nat)(s:Pl)(ho:s.dv.ops<=1000000000)(l:Nat->cQ)(H:∀i,i<8->dD (l i))(N:gE)(t:N=cL 24 (eV l))(w:cS)(h:fc w P D M s):
 CP_ 142 #[bW (cu ⟨P,0,cw⟩),bV N] w λe w'=>e=cj (cg #[mO (fD s l).2.1,bU cq (fD s l).2.2])/\fc w' P D M (fD s l).1/\Fr (cu D) [M] w w':=by have S:=St.start w (cu D) [M] (dQ P D M s) h;have j:=cz λW=>(show CP_ 185 #[bV N] W λe w'=>∃A,e=cj (cg #[bV A,bU cq (gi 51 (mW l))])/\A=cL 128 (dg ((mW l).getD ff))/\dR W w' from by rw[t];exact Fg l H W);have I:=cz t;obtain⟨T,x⟩:=dI (fD s l);have d:=cz x;unfold fD at d;rw[x];obtain⟨y,g⟩:=fP (cL 3 (dF cX));have G:=cz g;have o:=cz (show prog.built 106 []=cu y by rw[g,<-iO];exact MK);clear h x t g;go_enter func142,ntmps142;cases m:mW l with|none=>rw[m] at d j;simp only[gi,Option.isSome_none] at d j;obtain rfl:=d.o;clear m;go_wp2_with (first|(refine(j.o _).mono ?_;rintro e W ⟨A,rfl,k,a⟩;have E:=cz k;replace S:=S.cP a;clear k a)|refine lE (cells:=y) ae o.o ?_|(refine mA ?_;exact⟨by rw[dk (q:=cX) ae];rfl,S.x,S.fr⟩)|refine fL ?_|refine fg λW S=>?_)|some b=>rw[m] at d j;simp only[gi,Option.isSome_some,oR,lx] at d j;have a:=Gj m;have n:=cz λu W(X:fc W P D M s)R=>Kk P D M s ho 36 kB u b W X R;obtain⟨s1,p,c⟩:=T;rw[d.o] at n;simp only at n|-;obtain⟨J,f⟩:=fP (cL 3 (dF p));rw[dk f] at n|-;have r:=cz f;have F:=cz a;clear m f a;go_wp2_with first|(go_at_call 185;refine(j.o _).mono ?_;rintro e K ⟨A,rfl,k,a⟩;have E:=cz k;replace S:=S.cP a;clear k a)|(go_at_call 141;have v:=S.k0;have v:=lN.sec v F.o;refine(n.o _ _ S.x v).mono ?_;rintro e W ⟨rfl,C,z⟩;replace S:=S.call z ax eQ (dQ P D M s1) (λB h=>C);clear C z)|(refine mA ?_;exact⟨by rw[r.o];rfl,S.x,S.fr⟩)|refine fL ?_|refine fg λW S=>?_
def Cr(P D M:Nat)(s:Pl)(q:cQ)(F:dD q)(i:Nat)(J:i<64)(w:cS)(h:fc w P D M s):
 CP_ 109 #[bW (cu ⟨P,0,cw⟩),mO q,bU cq i] w λe w'=>∃N,e=cj (cg #[bV N,bU cq (fi s q i).2.2])/\N=cL 51 (nR (fi s q i).2.1)/\fc w' P D M (fi s q i).1/\Fr (cu D) [] w w':=by
 obtain⟨A,U⟩:=fP (cL 3 (dF q));have k:=dk U;have S:=St.start w (cu D) [] (dQ P D M s) h;obtain⟨T,V⟩:=dI (fi s q i);have a:=cz V;have H:=cz λW(X:fc W P D M s)=>x7 P D M s q F W X;have b:=yV h.dev.ok q;unfold fi at a;rw[V,k];rw[k] at H;obtain⟨c,y⟩:=dI (i/8);obtain⟨f,z⟩:=dI (i%8);have C:c<8:=cN;have E:f<8:=cN;have F:(i:Int)/8=(c:Int):=cN;have Y:(i:Int)%8=(f:Int):=cN;rw[y,z] at a;obtain⟨r,d⟩:=dI (du s q);rw[d] at H a b;obtain⟨s1,l,Z⟩:=r;simp only at H a b;have I:=cz λW(X:fc W P D M s1)=>x7 P D M s1 (l c) (b c) W X;obtain⟨r,G⟩:=dI (du s1 (l c));rw[G] at I a;obtain⟨s2,l2,N⟩:=r;simp only at I a;obtain⟨F,g⟩:=fP (cL 3 (dF (l c)));rw[dk g] at I;have Q:=cz g;have F:=cz U;obtain⟨R,j⟩:=fP (cL 51 (nR P8));have F:=cz j;have n:=cz (show prog.built 193 []=cu R by rw[j];exact ajX);clear U h V d G g k y z J b j;go_enter func109,ntmps109;go_upto_region 4 with(first|(refine(H.o _ S.x).mono ?_;rintro e W ⟨F,rfl,t,F,x⟩;have L:=cz t;replace S:=S.call x ax eQ (dQ P D M s1) (λB h=>F);clear t F x)|refine G8 S 0 rfl (o:=0) (m:=24) rn rfl rfl L.o CH (nQ _) (λw' d e=>by rw[e];exact aa8 d l) λW S=>?_|refine fL ?_|refine fg λW S=>?_);by_cases J:Z=0;case neg=>have G:(Z !=0)=cx:=fJ.2 J;rw[df J] at a;obtain rfl:=a.o;clear J;go_wp2_with first|refine lE (cells:=R) ae n.o ?_|(refine mA ?_;exact⟨_,ae,ae,S.x,S.fr⟩)|refine fg λW S=>?_
 subst J;rw[cZ (λh=>h ae)] at a;go_upto_region 7 with(first|refine ixN C ae amh ?_|refine Qb S 0 ae (o:=c*3) (m:=3) ae (dF (l c)) (show c*3+3<=51 by omega) (aiA _ C) Q.o fK ?_|(refine(I.o _ S.x).mono ?_;rintro e W ⟨H,rfl,t,F,x⟩;have O:=cz t;replace S:=S.call x ax eQ (dQ P D M s2) (λB h=>F);clear t F x)|refine G8 S 0 rfl (o:=24) (m:=24) rn rfl rfl O.o CH (nQ _) (λw' d e=>by rw[e];exact Xu d l2) λW S=>?_);by_cases K:N=0;case neg=>have G:(N !=0)=cx:=fJ.2 K;rw[df K] at a;obtain rfl:=a.o;clear K;go_wp2_with first|refine lE (cells:=R) ae n.o ?_|(refine mA ?_;exact⟨_,ae,ae,S.x,S.fr⟩)|refine fg λW S=>?_
 subst K;rw[cZ (λh=>h ae)] at a;obtain rfl:=a.o;obtain⟨F,u⟩:=fP (cL 3 (dF (l2 f)));have p:=cz u;obtain⟨F,v⟩:=fP (cL 51 (nR ⟨l,l2,l2 f⟩));have F:=cz v;clear u v;go_wp2_with first|refine ak9 E ae (by first|exact gD (Value.int cq) Y) ?_|refine Qb S 0 ae (o:=24+f*3) (m:=3) ae (dF (l2 f)) (show 24+f*3+3<=51 by omega) (aiB _ E) p.o fK ?_|refine G8 S 0 rfl (o:=48) (m:=3) rn rfl rfl p.o fK (dJ _) (λw' d e=>by rw[e];exact aa9 d (l2 f)) λW S=>?_|(refine mA ?_;exact⟨_,ae,ae,S.x,S.fr⟩)|refine fL ?_|refine fg λW S=>?_
def U0(P D M:Nat)(s:Pl)(q:cQ)(O:dD q)(i:Int)(w:cS)(h:fc w P D M s):
 CP_ 48 #[bW (cu ⟨P,0,cw⟩),mO q,bU cq i] w λe w'=>∃B,e=cj (cg #[bV B,bU cq (oV s q i).2.2])/\B=cL 128 (dg (oV s q i).2.1)/\fc w' P D M (oV s q i).1/\Fr (cu D) [] w w':=by
 obtain⟨A,C⟩:=fP (cL 3 (dF q));have n:=dk C;have S:=St.start w (cu D) [] (dQ P D M s) h;obtain⟨T,E⟩:=dI (oV s q i);have a:=cz E;have p:=cz λW=>Gk i W;have F:=h.dev.ok;unfold oV at a;rw[E,n];have Q:=cz C;obtain⟨z,f⟩:=fP (cL 128 (dg ff));have L:=cz f;have g:=cz (show prog.built 36 []=cu z by rw[f];exact ajY);clear C h E f;go_enter func48,ntmps48;cases c:mz i with
 |false=>rw[c] at p a;rw[df ae] at a;obtain rfl:=a.o;clear c;go_wp2_with first|refine mY (p.o _) ?_|refine lE (cells:=z) ae g.o ?_|(refine mA ?_;exact⟨_,ae,ae,S.x,S.fr⟩)|refine fg λW S=>?_
 |true=>
  rw[c] at p a;rw[cZ kB] at a;obtain⟨k,rfl⟩:∃k:Nat,i=(k:Int):=⟨i.m,by unfold mz at c;rw[qS] at c;omega⟩;have J:k<64:=by unfold mz at c;rw[qS] at c;omega
  rw[tZ] at a;have t:=cz λW(X:fc W P D M s)=>Cr P D M s q O k J W X;have b:=rU F q k;obtain⟨r,K⟩:=dI (fi s q k);rw[K] at t a b;obtain⟨s1,y,G⟩:=r;simp only at t a b;rw[n] at t;have u:=cz λW(X:fc W P D M s1)=>z8 P D M s1 y.block b.2.2 W X;obtain⟨V,d⟩:=fP (cL 3 (dF y.block));rw[dk d] at u;have x:=cz d;clear c K b d J;go_upto_region 4 with(first|refine mY (p.o _) ?_|(refine(t.o _ S.x).mono ?_;rintro e W ⟨N,rfl,I,l,j⟩;have U:=cz I;replace S:=S.call j ax eQ (dQ P D M s1) (λB h=>l);clear I l j)|refine fL ?_|refine fg λW S=>?_);by_cases v:G=0;case neg=>have Z:(G !=0)=cx:=fJ.2 v;rw[df v] at a;obtain rfl:=a.o;clear v;go_wp2_with first|refine lE (cells:=z) ae g.o ?_|(refine mA ?_;exact⟨_,ae,ae,S.x,S.fr⟩)|refine fg λW S=>?_
  subst v;rw[cZ (λh=>h ae)] at a;obtain⟨s2,bs,Y⟩:=T;rw[a.o] at u;simp only at u|-;go_wp2_with first|refine oM_ S 0 ae (o:=48) (m:=3) (dF y.block) (Gw y) x.o ?_|(refine(u.o _ S.x).mono ?_;rintro e W ⟨B,rfl,H,l,j⟩;have R:=cz H;replace S:=S.call j ax eQ (dQ P D M s2) (λB h=>l);clear H l j)|(refine mA ?_;exact⟨_,ae,ae,S.x,S.fr⟩)|refine fg λW S=>?_
def U1(P D M:Nat)(s:Pl)(ho:s.dv.ops<=999999000)(q:cQ)(hq:dD q)(i:Int)(v:c7)(b:cV)(w:cS)(h:fc w P D M s)(hv:lN w 5 v b):
 CP_ 80 #[bW (cu ⟨P,0,cw⟩),mO q,bU cq i,v] w λe w'=>∃r,e=cj (cg #[mO (kZ s q i b).2.1,r,bU cq (kZ s q i b).2.2.2])/\il w' w.h.s r (kZ s q i b).2.2.1/\fc w' P D M (kZ s q i b).1/\Fr (cu D) [M] w w':=by
 obtain⟨A,hA⟩:=fP (cL 3 (dF q));have a1:=dk hA;have S:=St.start w (cu D) [M] (dQ P D M s) h;have c8:=hv.2;obtain⟨ba,bc,rfl,-,-⟩:=hv.form;obtain⟨bl,a2⟩:=sO b.n;rw[a2.o] at hv|-;have HV:Hid (∀W,Fr (cu D) [M] w W->lN W 5 (bX ba bl bc) b):=cz λW f=>hv.fr f (.inr rfl) rfl;have C1:=cz λW=>Gk i W;have h0:=And.intro h.dev.ok h.ok.1;obtain⟨T,a⟩:=sO (kZ s q i b);rw[a.o,a1];have HA:=cz hA;clear hA h hv;unfold kZ at a;go_enter func80,ntmps80;cases L:mz i with
 |false=>rw[L] at C1 a;rw[df rfl] at a;obtain rfl:=a.o;clear L;go_wp2_with first|refine mY (C1.o _) ?_|(refine mA ?_;exact⟨_,by rw[dk (q:=q) rfl];rfl,il.nil _ _,S.x,S.fr⟩)|refine fL ?_|refine fg λW S=>?_
 |true=>
  rw[L] at C1 a;rw[cZ kB] at a;obtain⟨k,rfl⟩:∃k:Nat,i=(k:Int):=⟨i.m,by unfold mz at L;rw[qS] at L;omega⟩;have hk:k<64:=by unfold mz at L;rw[qS] at L;omega
  rw[a2.o] at a;clear L;by_cases g1:128<(bl:Int);case pos=>rw[df cN] at a;obtain rfl:=a.o;go_wp2_with first|refine mY (C1.o _) ?_|(refine mA ?_;exact⟨_,by rw[dk (q:=q) rfl];rfl,il.nil _ _,S.x,S.fr⟩)|refine fL ?_|refine fg λW S=>?_
  rw[cZ cN,tZ] at a;obtain⟨l,b2⟩:=dI (k/8);obtain⟨p,b3⟩:=dI (k%8);have d1:l<8:=cN;have d2:p<8:=cN;have d6:(k:Int)/8=(l:Int):=cN;have c9:(k:Int)%8=(p:Int):=cN;rw[b2,b3] at a;have C2:=cz λW(X:fc W P D M s)=>Cr P D M s q hq k hk W X;have O:=uQ s q k;have G:=rU h0.1 q k;have I:=uR s q k;obtain⟨r,hr⟩:=dI (fi s q k);rw[hr] at C2 a O G I;obtain⟨s1,y,c1⟩:=r;simp only at C2 a O G I;rw[a1] at C2;have a5:=cz G;have a8:=cz (show gy s1.cR by rw[I];exact h0.2);have a6:Hid (∀W,CP_ 143 #[bV (cL 51 (nR y)),mO q,bU cq k] W λe w'=>∃v,e=cj v/\il w' W.h.s v (lI y q k)/\dR W w'):=cz λW=>Hz y q k hk _ rfl W;clear hr G I b2 b3;go_upto_region 6 with(first|refine yZ S rfl HA.o rfl λWB S=>?_|refine mY (C1.o _) ?_|(refine(C2.o _ S.x).mono ?_;rintro e WW ⟨N,rfl,hN,hp,hf⟩;have HN:=cz hN;replace S:=S.call hf (λD e=>e) eQ (dQ P D M s1) (λB h=>hp);clear hN)|refine fL ?_|refine fg λW S=>?_);rw[<-HN.o,a1] at a6;by_cases x:c1=0;case neg=>have g9:(c1 !=0)=cx:=fJ.2 x;rw[df x] at a;obtain rfl:=a.o;clear x;go_wp2_with first|(refine mA ?_;exact⟨_,by rw[dk (q:=q) rfl];rfl,il.nil _ _,S.x,S.fr⟩)|refine fL ?_|refine fg λW S=>?_
  subst x;rw[cZ (λh=>h rfl)] at a;have C5:=cz λW(X:fc W P D M s1)=>qw P D M s1.cR s1.base W X.row;have C6:=cz λW(X:fc W P D M s1)=>count_map M s1.mp W X.map;obtain⟨cn,b1⟩:=dI (fR s1.mp);rw[b1] at C6 a;clear b1;by_cases g3:cn<3;case pos=>rw[df g3] at a;obtain rfl:=a.o;go_wp2_with first|refine mY (C5.o _ S.x) ?_|refine mY (C6.o _ S.x) ?_|(refine mA ?_;exact⟨_,by rw[dk (q:=q) rfl];rfl,il.nil _ _,S.x,S.fr⟩)|refine fL ?_|refine fg λW S=>?_
  rw[cZ g3] at a;have C7:=cz λW(X:fc W P D M s1)hv=>Kk P D M s1 cN 5 kB (bX ba bl bc) b W X hv;have F:=J6 a8.o b c8;have b4:=Jk s1 b;have H:=DF s1 b;obtain⟨u,Q⟩:=dI (tu s1 b);rw[Q] at C7 a F b4 H;obtain⟨s2,R,c2⟩:=u;simp only at C7 a F b4 H;obtain⟨PB,Z⟩:=fP (cL 3 (dF R));rw[dk Z] at C7;have b8:=cz Z;have b7:=cz F;have a7:=cz (show gy s2.cR by rw[H];exact a8.o);clear Q Z F H;go_upto_region 11 with(first|refine mY (C5.o _ S.x) ?_|refine mY (C6.o _ S.x) ?_|(refine(C7.o _ S.x (HV.o _ S.fr)).mono ?_;rintro e W ⟨rfl,hp,hf⟩;replace S:=S.call hf (λD e=>e) eQ (dQ P D M s2) (λB h=>hp))|refine fg λW S=>?_);by_cases z:c2=0;case neg=>have g9:(c2 !=0)=cx:=fJ.2 z;rw[df z] at a;obtain rfl:=a.o;clear z;go_wp2_with first|(refine mA ?_;exact⟨_,by rw[dk (q:=q) rfl];rfl,il.nil _ _,S.x,S.fr⟩)|refine fL ?_|refine fg λW S=>?_
  subst z;rw[cZ (λh=>h rfl)] at a;obtain⟨N2,b6⟩:=yB (cL 24 (eV y.mG));obtain⟨N1,b5⟩:=yB (cL 24 (eV y.first));obtain⟨M2,Y⟩:=fP (cL 24 (eV (jd y.mG p R)));have d4:=cz Y;have C8:=cz λW(X:fc W P D M s2)=>vg P D M s2 cN (jd y.mG p R) (λi _=>vY a5.o.2.1 b7.o i) M2 Y W X;have c:=oh (s:=s2) (by exact a7.o) (jd y.mG p R);have j:=nI s2 (jd y.mG p R);have d:=oj s2 (jd y.mG p R);obtain⟨u,Q⟩:=dI (fD s2 (jd y.mG p R));rw[Q] at C8 a j d c;obtain⟨J,U,c3⟩:=u;simp only at C8 a j d c;obtain⟨PC,g⟩:=fP (cL 3 (dF U));rw[dk g] at C8;have b9:=cz g;have c6:=cz c;have c5:=cz (show gy J.cR by rw[d];exact a7.o);have a3:=cz (show J.dv.ops<=1000000000-0 by omega);clear Y Q g c d;go_upto_region 16 with(first|refine oM_ S 1 rfl (o:=24) (m:=24) (eV y.mG) (Kj y) b6.o ?_|refine ixN d2 rfl (by first|exact gD (Value.int cq) c9) ?_|refine G8 S 0 rfl (o:=p*3) (m:=3) (show p*3+3<=24 by omega) rfl rfl b8.o fK (dJ _) (λw' hr e=>Hy hr p R e) λW S=>?_|(refine(C8.o _ S.x).mono ?_;rintro e W ⟨rfl,hp,hf⟩;replace S:=S.call hf (λD e=>e) eQ (dQ P D M J) (λB h=>hp))|refine fL ?_|refine fg λW S=>?_);by_cases C:c3=0;case neg=>have g9:(c3 !=0)=cx:=fJ.2 C;rw[df C] at a;obtain rfl:=a.o;clear C;go_wp2_with first|(refine mA ?_;exact⟨_,by rw[dk (q:=q) rfl];rfl,il.nil _ _,S.x,S.fr⟩)|refine fL ?_|refine fg λW S=>?_
  subst C;rw[cZ (λh=>h rfl)] at a;obtain⟨M1,V⟩:=fP (cL 24 (eV (jd y.first l U)));have d3:=cz V;have C9:=cz λW(X:fc W P D M J)=>vg P D M J (by have:=a3.o;omega) (jd y.first l U) (λi _=>vY a5.o.1 c6.o i) M1 V W X;have c:=oh (s:=J) (by exact c5.o) (jd y.first l U);have j:=nI J (jd y.first l U);have d:=oj J (jd y.first l U);obtain⟨u,Q⟩:=dI (fD J (jd y.first l U));rw[Q] at C9 a j d c;obtain⟨s4,p4,c4⟩:=u;simp only at C9 a j d c;obtain⟨PE,g⟩:=fP (cL 3 (dF p4));rw[dk g] at C9;have a4:=cz g;have d5:=cz c;clear V Q g c d;go_upto_region 21 with(first|refine oM_ S 3 rfl (o:=0) (m:=24) (eV y.first) (MJ y) b5.o ?_|refine ixN d1 rfl (by first|rfl) ?_|refine G8 S 0 rfl (o:=l*3) (m:=3) (show l*3+3<=24 by omega) rfl rfl b9.o fK (dJ _) (λw' hr e=>Hy hr l U e) λW S=>?_|(refine(C9.o _ S.x).mono ?_;rintro e W ⟨rfl,hp,hf⟩;replace S:=S.call hf (λD e=>e) eQ (dQ P D M s4) (λB h=>hp))|refine fL ?_|refine fg λW S=>?_);by_cases E:c4=0;case neg=>have g9:(c4 !=0)=cx:=fJ.2 E;rw[df E] at a;obtain rfl:=a.o;clear E;go_wp2_with first|(refine mA ?_;exact⟨_,by rw[dk (q:=q) rfl];rfl,il.nil _ _,S.x,S.fr⟩)|refine fL ?_|refine fg λW S=>?_
  subst E;rw[cZ (λh=>h rfl)] at a;obtain rfl:=a.o;go_upto_region 23 with(fail);try simp only[BJ,FV] at S
  obtain⟨TC,a9⟩:=S.nm;rw[a9] at S|-;clear a9;refine eR S dC [⟨TC,106,3,dF p4⟩,⟨WW.h.s,193,51,nR y⟩,⟨w.h.s,106,3,dF q⟩] CI λW S=>?_;refine gZ 0 (bV PE) rfl (rE (λw h=>h.row 0 rfl) rfl a4.o fK) ?_;refine gZ 1 (bV N) rfl (rE (b:=WW.h.s) (t:=193) (n:=51) (f:=nR y) (λw h=>h.row 1 rfl) rfl HN.o UZ) ?_;refine gZ 2 (bV A) rfl (rE (b:=w.h.s) (t:=106) (n:=3) (f:=dF q) (λw h=>h.row 2 rfl) rfl HA.o fK) ?_;refine dh 3 _ ?_;refine kI 4 λK hK=>?_;go_wp2_with fail;refine(a6.o _).mono ?_;rintro e W ⟨v,rfl,ho,hb⟩;replace S:=S.iv hb ho rfl rfl;clear ho;refine gq hK ?_;refine kI 5 λK hK=>?_;refine kq S 6 rfl rfl rfl a4.o fK (dJ _) λW S=>?_;refine gq hK ?_;refine dh 6 _ ?_;refine dh 7 _ ?_;refine qx ?_;go_wp2_with (refine mA ?_;exact⟨_,by rw[dk (q:=p4) rfl];rfl,S.o0,S.x,S.fr⟩)
def R'(P D M:Nat)(s:Pl)(ho:s.dv.ops<=999999000)(q:cQ)(hq:dD q)(i:Int)(w:cS)(h:fc w P D M s):
 CP_ 95 #[bW (cu ⟨P,0,cw⟩),mO q,bU cq i] w λe w'=>∃r,e=cj (cg #[mO (iF s q i).2.1,r,bU cq (iF s q i).2.2.2])/\il w' w.h.s r (iF s q i).2.2.1/\fc w' P D M (iF s q i).1/\Fr (cu D) [M] w w':=by
 obtain⟨A,hA⟩:=fP (cL 3 (dF q));have c4:=dk hA;have S:=St.start w (cu D) [M] (dQ P D M s) h;have C1:=cz λW=>Gk i W;obtain⟨T,HT⟩:=sO (iF s q i);rw[HT.o,c4];have HA:=cz hA;have h0:=And.intro h.dev.ok h.ok.1;clear hA h;go_enter func95,ntmps95;cases J:mz i with
 |false=>
  rw[J] at C1;obtain rfl:(s,(q,[],(111:Int)))=T:=by rw[<-HT.o];unfold iF;rw[df J]
  clear J;go_wp2_with first|refine mY (C1.o _) ?_|(refine mA ?_;exact⟨_,by rw[dk (q:=q) rfl];rfl,il.nil _ _,S.x,S.fr⟩)|refine fL ?_|refine fg λW S=>?_
 |true=>
  rw[J] at C1;obtain⟨k,rfl⟩:∃k:Nat,i=(k:Int):=⟨i.m,by unfold mz at J;rw[qS] at J;omega⟩;have hk:k<64:=by unfold mz at J;rw[qS] at J;omega
  have l:=cz (show(if(fi s q k).2.2≠0 then((fi s q k).1,(q,[],(fi s q k).2.2)) else if(fi s q k).2.1.block=cX then((fi s q k).1,(q,[],0)) else om (fi s q k).1 (fi s q k).2.1 q k)=T by
   rw[<-HT.o];unfold iF;rw[cZ (show¬mz (k:Int)=cy by rw[J];decide)];rfl)
  have C2:=cz λW(X:fc W P D M s)=>Cr P D M s q hq k hk W X;have G:=uQ s q k;have R:=rU h0.1 q k;have U:=uR s q k;clear J HT;obtain⟨r,Y⟩:=dI (fi s q k);rw[Y] at C2 l G R U;obtain⟨s1,y,c1⟩:=r;simp only at C2 l G R U;have a6:=cz R;have a7:=cz (show gy s1.cR by rw[U];exact h0.2);clear R U;rw[c4] at C2;clear Y
  go_upto_region 4 with(first|refine yZ S rfl HA.o rfl λWB S=>?_|refine mY (C1.o _) ?_|(refine(C2.o _ S.x).mono ?_;rintro e I ⟨N,rfl,hN,hp,hf⟩;have HN:=cz hN;replace S:=S.call hf (λD e=>e) eQ (dQ P D M s1) (λB h=>hp);clear hN)|refine fL ?_|refine fg λW S=>?_)
  by_cases g1:c1=0
  case neg=>
   have g2:(c1 !=0)=cx:=fJ.2 g1;obtain rfl:(s1,(q,[],c1))=T:=by rw[<-l.o,df g1]
   clear g1
   go_wp2_with first|(refine mA ?_;exact⟨_,by rw[dk (q:=q) rfl];rfl,il.nil _ _,S.x,S.fr⟩)|refine fL ?_|refine fg λW S=>?_
  subst g1;obtain⟨BA,b5⟩:=fP (cL 3 (dF y.block));have c7:=cz b5;have d9:=dk b5;obtain⟨zb,c5⟩:=dI (decide (y.block=cX));have e5:=F8 y.block cX zb c5;obtain⟨ZH,Q⟩:=fP (cL 3 (dF cX));have e7:=cz Q;have e1:=dk Q;rw[d9,e1] at e5;have c6:=cz (show prog.built 106 []=cu ZH by rw[Q,<-iO];exact MK);have b4:=cz c5;clear b5 d9 c5 e1 Q;cases zb with
  |true=>
   obtain rfl:(s1,(q,[],(0:Int)))=T:=by rw[<-l.o,cZ (λh=>h rfl),df (l6 b4.o)]
   go_wp2_with first|refine oM_ S 0 rfl (o:=48) (m:=3) (dF y.block) (Gw y) c7.o ?_|(refine mi dC ?_;refine lE (cells:=ZH) rfl c6.o ?_)|(refine mA ?_;exact⟨_,by rw[dk (q:=q) rfl];rfl,il.nil _ _,S.x,S.fr⟩)|refine fL ?_|refine fg λW S=>?_
  |false=>
   have a9:=cz (show om s1 y q k=T by rw[<-l.o,cZ (λh=>h rfl),cZ (yw b4.o)]);clear l b4
   go_upto_region 6 with(first|refine oM_ S 0 rfl (o:=48) (m:=3) (dF y.block) (Gw y) c7.o ?_|(refine mi dC ?_;refine lE (cells:=ZH) rfl c6.o ?_))
   obtain⟨N1,a3⟩:=yB (cL 24 (eV y.first));obtain⟨N2,a4⟩:=yB (cL 24 (eV y.mG));obtain⟨E,b8⟩:=dI (k/8);obtain⟨i2,b9⟩:=dI (k%8);have d8:E<8:=cN;have e6:i2<8:=cN;have e9:(k:Int)/8=(E:Int):=cN;have e4:(k:Int)%8=(i2:Int):=cN;obtain⟨F,H⟩:=yB (jd y.first E cX);obtain⟨n2,L⟩:=yB (jd y.mG i2 cX);obtain⟨M1,b6⟩:=fP (cL 24 (eV F));obtain⟨M2,b7⟩:=fP (cL 24 (eV n2));have a1:=cz b6;have e2:=cz b7;have t0:=adM (s:=s1) (y:=y) (cO:=q) (i:=k);have t1:=adN (s:=s1) (y:=y) (cO:=q) (i:=k);have t2:=adO (s:=s1) (y:=y) (cO:=q) (i:=k);rw[b8,b9,<-H.o,<-L.o,a9.o] at t0 t1;rw[b8,b9,<-H.o,<-L.o,a9.o] at t2;obtain⟨b1,d5⟩:=dI (rV F);obtain⟨b2,d6⟩:=dI (rV n2);have C3:=cz λW=>Fi F M1 b6 W;have C4:=cz λW=>Fi n2 M2 b7 W;rw[d5] at C3 t0 t1;rw[d6] at C4 t0 t1 t2;have C5:=cz λW(X:fc W P D M s1)=>qw P D M s1.cR s1.base W X.row;have C6:=cz λW(X:fc W P D M s1)=>count_map M s1.mp W X.map;obtain⟨cn,d7⟩:=dI (fR s1.mp);rw[d7] at C6 t1 t2;have a8:=cz t0;have l:=cz t1;have b3:=cz t2;have a5:=cz G;clear b8 b9 b6 b7 d5 d6 d7 a9 t0 t1 t2 G;refine eR S dC [⟨I.h.s,193,51,nR y⟩] CI λW S=>?_;refine dh 0 (dE I.h.s 0) ?_;refine gZ 1 (bV N1) rfl (yKn (λw h=>h.row 0 rfl) (o:=0) (m:=24) rfl (eV y.first) rn (MJ y) a3.o CH) ?_;refine dh 2 (dE I.h.s 24) ?_;refine gZ 3 (bV N2) rfl (yKn (λw h=>h.row 0 rfl) (o:=24) (m:=24) rfl (eV y.mG) rn (Kj y) a4.o CH) ?_
   repeat' first|refine Te ?_|refine BE 4 5 (λK p=>?_) λK p=>?_|refine qg 5 λK p=>?_|refine qg 4 λK p=>?_|refine qg 6 λK p=>?_|refine qg 7 λK p=>?_|(refine gl (dst:=11) S zeroValue191 Ey rfl λE1 W S=>?_;refine gq p ?_)|(refine gl (dst:=12) S zeroValue191 Ey rfl λE2 W S=>?_;refine gq p ?_)|((first|(refine kq S 0 rfl rfl rfl a3.o CH (nQ _) λW S=>?_)|refine kq S 1 rfl rfl rfl a3.o CH (nQ _) λW S=>?_);refine gq p ?_)|((first|(refine kq S 0 rfl rfl rfl a4.o CH (nQ _) λW S=>?_)|refine kq S 1 rfl rfl rfl a4.o CH (nQ _) λW S=>?_);refine gq p ?_)
   all_goals(
    refine cz ?_
    first|(replace S:St w (cu D) [M] (⟨E2,191,24,eV y.mG⟩:: ⟨E1,191,24,eV y.first⟩:: ⟨I.h.s,193,51,nR y⟩::_) [] _ W:=S)|(replace S:St w (cu D) [M] (⟨E2,191,24,eV y.mG⟩:: ⟨E1,191,24,eV y.first⟩:: ⟨I.h.s,193,51,nR y⟩::_) [] _ W:=S.aeq)
    go_upto_region 10 with(first|refine ixN e6 rfl (by first|exact gD (Value.int cq) e4) ?_|refine ixN d8 rfl (by first|rfl) ?_|refine G8 S 0 rfl (o:=i2*3) (m:=3) (show i2*3+3<=24 by omega) rfl rfl iO fK (dJ _) (λw' Y e=>Hy Y i2 cX e) λW S=>?_|refine G8 S 1 rfl (o:=E*3) (m:=3) (show E*3+3<=24 by omega) rfl rfl iO fK (dJ _) (λw' Y e=>Hy Y E cX e) λW S=>?_|refine fL ?_)
    rw[<-H.o,<-L.o] at S;have C9:=cz λW=>Hz y q k hk N HN.o W;rw[c4] at C9;cases b2 with
    |false=>
     have a:=cz (b3.o rfl);clear a8 l b3;by_cases g3:cn<2
     case pos=>
      rw[df g3] at a;obtain rfl:=a.o
      go_wp2_with first|refine je S (C4.o _) λW S=>?_|refine mY (C5.o _ S.x) ?_|refine mY (C6.o _ S.x) ?_|(refine mA ?_;exact⟨_,by rw[dk (q:=q) rfl];rfl,il.nil _ _,S.x,S.fr⟩)|refine fL ?_|refine fg λW S=>?_
     rw[cZ g3] at a;have C:=cz λW(X:fc W P D M s1)=>vg P D M s1 (by have:=a5.o;omega) n2 (λi _=>by rw[L.o];exact vY a6.o.2.1 dV i) M2 e2.o W X;have c:=oh (s:=s1) (by exact a7.o) n2;have d:=nI s1 n2;have g:=oj s1 n2;obtain⟨u,Z⟩:=dI (fD s1 n2);rw[Z] at C a d g c;obtain⟨s2,p2,c2⟩:=u;simp only at C a d g c;obtain⟨e8,j⟩:=fP (cL 3 (dF p2));rw[dk j] at C;have c8:=cz j;have d2:=cz c;have d1:=cz d;have d4:=cz g;clear Z j c d g
     go_upto_region 18 with(first|refine je S (C4.o _) λW S=>?_|refine mY (C5.o _ S.x) ?_|refine mY (C6.o _ S.x) ?_|(refine(C.o _ S.x).mono ?_;rintro e W ⟨rfl,hp,hf⟩;replace S:=S.call hf (λD e=>e) eQ (dQ P D M s2) (λB h=>hp))|refine ixN d8 rfl (by first|rfl) ?_|refine G8 S 1 rfl (o:=E*3) (m:=3) (show E*3+3<=24 by omega) rfl rfl c8.o fK (dJ _) (λw' Y e=>Hy Y E p2 e) λW S=>?_|refine fL ?_)
     clear C;by_cases g5:c2=0
     case neg=>
      have g6:(c2 !=0)=cx:=fJ.2 g5;rw[df g5] at a;obtain rfl:=a.o;clear g5
      go_wp2_with first|(refine mA ?_;exact⟨_,by rw[dk (q:=q) rfl];rfl,il.nil _ _,S.x,S.fr⟩)|refine fL ?_|refine fg λW S=>?_
     subst g5;rw[cZ (λh=>h rfl)] at a;obtain⟨M3,a2⟩:=yB (cL 24 (eV (jd F E p2)));have C:=cz λW(X:fc W P D M s2)=>vg P D M s2 (by have:=a5.o;have:=d1.o;omega) (jd F E p2) (λi _=>by rw[H.o];exact vY (vY a6.o.1 dV) d2.o i) M3 a2.o W X;have c:=oh (s:=s2) (by have:=d4.o;rw[this];exact a7.o) (jd F E p2);have d:=nI s2 (jd F E p2);have g:=oj s2 (jd F E p2);obtain⟨u,Z⟩:=dI (fD s2 (jd F E p2));rw[Z] at C a d g c;obtain⟨s3,V,c3⟩:=u;simp only at C a d g c;obtain⟨e3,j⟩:=fP (cL 3 (dF V));rw[dk j] at C;have c9:=cz j;have d3:=cz c;clear Z j c d g
     go_upto_region 23 with(first|(refine(C.o _ S.x).mono ?_;rintro e W ⟨rfl,hp,hf⟩;replace S:=S.call hf (λD e=>e) eQ (dQ P D M s3) (λB h=>hp))|refine fL ?_|refine fg λW S=>?_)
     by_cases O:c3=0
     case neg=>
      have g8:(c3 !=0)=cx:=fJ.2 O;rw[df O] at a;obtain rfl:=a.o;clear O
      go_wp2_with first|(refine mA ?_;exact⟨_,by rw[dk (q:=q) rfl];rfl,il.nil _ _,S.x,S.fr⟩)|refine fL ?_|refine fg λW S=>?_
     subst O;rw[cZ (λh=>h rfl)] at a;obtain rfl:=a.o;obtain⟨PX,x⟩:=yB (cL 3 (dF V))
     go_upto_region 25 with(fail)
     try simp only[BJ,FV] at S
     obtain⟨TC,z⟩:=S.nm;rw[z] at S|-;clear z;refine eR S dC [⟨TC,106,3,dF V⟩,⟨I.h.s,193,51,nR y⟩,⟨w.h.s,106,3,dF q⟩] CI λW S=>?_;refine gZ 0 (bV PX) rfl (rE (λw h=>h.row 0 rfl) rfl x.o fK) ?_;refine gZ 1 (bV N) rfl (rE (b:=I.h.s) (t:=193) (n:=51) (f:=nR y) (λw h=>h.row 1 rfl) rfl HN.o UZ) ?_;refine gZ 2 (bV A) rfl (rE (b:=w.h.s) (t:=106) (n:=3) (f:=dF q) (λw h=>h.row 2 rfl) rfl HA.o fK) ?_;refine dh 3 _ ?_;refine kI 4 λK p=>?_
     go_wp2_with fail
     refine(C9.o _).mono ?_;rintro e W ⟨v,rfl,ho,hb⟩;replace S:=S.iv hb ho rfl rfl;clear ho;refine gq p ?_;refine kI 5 λK p=>?_;refine kq S 4 rfl rfl rfl x.o fK (dJ _) λW S=>?_;refine gq p ?_;refine dh 6 _ ?_;refine dh 7 _ ?_;refine qx ?_
     go_wp2_with (refine mA ?_;exact⟨_,by rw[dk (q:=V) rfl];rfl,S.o0,S.x,S.fr⟩)
    |true=>
     clear b3;cases b1 with
     |false=>
      have a:=cz (l.o rfl rfl);clear a8 l;by_cases g3:cn<1
      case pos=>
       rw[df g3] at a;obtain rfl:=a.o
       go_wp2_with first|(first|refine jj 52 191 11 S 1 a1.o ?_)|refine je S (C4.o _) λW S=>?_|refine je S (C3.o _) λW S=>?_|refine mY (C5.o _ S.x) ?_|refine mY (C6.o _ S.x) ?_|(refine mA ?_;exact⟨_,by rw[dk (q:=q) rfl];rfl,il.nil _ _,S.x,S.fr⟩)|refine fL ?_|refine fg λW S=>?_
      rw[cZ g3] at a
      go_upto_region 20 with(first|(first|refine jj 52 191 11 S 1 a1.o ?_)|refine je S (C4.o _) λW S=>?_|refine je S (C3.o _) λW S=>?_|refine mY (C5.o _ S.x) ?_|refine mY (C6.o _ S.x) ?_|refine fL ?_)
      obtain⟨M3,a2⟩:=yB (cL 24 (eV (F)));have C:=cz λW(X:fc W P D M s1)=>vg P D M s1 (by have:=a5.o;omega) (F) (λi _=>by rw[H.o];exact vY a6.o.1 dV i) M3 a2.o W X;have c:=oh (s:=s1) (by exact a7.o) (F);have d:=nI s1 (F);have g:=oj s1 (F);obtain⟨u,Z⟩:=dI (fD s1 (F));rw[Z] at C a d g c;obtain⟨s3,V,c3⟩:=u;simp only at C a d g c;obtain⟨e3,j⟩:=fP (cL 3 (dF V));rw[dk j] at C;have c9:=cz j;have d3:=cz c;clear Z j c d g
      go_upto_region 23 with(first|(refine(C.o _ S.x).mono ?_;rintro e W ⟨rfl,hp,hf⟩;replace S:=S.call hf (λD e=>e) eQ (dQ P D M s3) (λB h=>hp))|refine fL ?_|refine fg λW S=>?_)
      by_cases O:c3=0
      case neg=>
       have g8:(c3 !=0)=cx:=fJ.2 O;rw[df O] at a;obtain rfl:=a.o;clear O
       go_wp2_with first|(refine mA ?_;exact⟨_,by rw[dk (q:=q) rfl];rfl,il.nil _ _,S.x,S.fr⟩)|refine fL ?_|refine fg λW S=>?_
      subst O;rw[cZ (λh=>h rfl)] at a;obtain rfl:=a.o;obtain⟨PX,x⟩:=yB (cL 3 (dF V))
      go_upto_region 25 with(fail)
      try simp only[BJ,FV] at S
      obtain⟨TC,z⟩:=S.nm;rw[z] at S|-;clear z;refine eR S dC [⟨TC,106,3,dF V⟩,⟨I.h.s,193,51,nR y⟩,⟨w.h.s,106,3,dF q⟩] CI λW S=>?_;refine gZ 0 (bV PX) rfl (rE (λw h=>h.row 0 rfl) rfl x.o fK) ?_;refine gZ 1 (bV N) rfl (rE (b:=I.h.s) (t:=193) (n:=51) (f:=nR y) (λw h=>h.row 1 rfl) rfl HN.o UZ) ?_;refine gZ 2 (bV A) rfl (rE (b:=w.h.s) (t:=106) (n:=3) (f:=dF q) (λw h=>h.row 2 rfl) rfl HA.o fK) ?_;refine dh 3 _ ?_;refine kI 4 λK p=>?_
      go_wp2_with fail
      refine(C9.o _).mono ?_;rintro e W ⟨v,rfl,ho,hb⟩;replace S:=S.iv hb ho rfl rfl;clear ho;refine gq p ?_;refine kI 5 λK p=>?_;refine kq S 4 rfl rfl rfl x.o fK (dJ _) λW S=>?_;refine gq p ?_;refine dh 6 _ ?_;refine dh 7 _ ?_;refine qx ?_
      go_wp2_with (refine mA ?_;exact⟨_,by rw[dk (q:=V) rfl];rfl,S.o0,S.x,S.fr⟩)
     |true=>
      have a:=cz (a8.o rfl rfl);obtain rfl:=a.o;have g3:¬(cn:Int)<0:=cN
      go_upto_region 20 with(first|(first|refine jj 52 191 11 S 1 a1.o ?_)|refine je S (C4.o _) λW S=>?_|refine je S (C3.o _) λW S=>?_|refine mY (C5.o _ S.x) ?_|refine mY (C6.o _ S.x) ?_|refine fL ?_)
      obtain⟨PX,x⟩:=yB (cL 3 (dF cX))
      go_upto_region 25 with(refine fg λW S=>?_)
      try simp only[BJ,FV] at S
      obtain⟨TC,z⟩:=S.nm;rw[z] at S|-;clear z;refine eR S dC [⟨TC,106,3,dF cX⟩,⟨I.h.s,193,51,nR y⟩,⟨w.h.s,106,3,dF q⟩] CI λW S=>?_;refine gZ 0 (bV PX) rfl (rE (λw h=>h.row 0 rfl) rfl x.o fK) ?_;refine gZ 1 (bV N) rfl (rE (b:=I.h.s) (t:=193) (n:=51) (f:=nR y) (λw h=>h.row 1 rfl) rfl HN.o UZ) ?_;refine gZ 2 (bV A) rfl (rE (b:=w.h.s) (t:=106) (n:=3) (f:=dF q) (λw h=>h.row 2 rfl) rfl HA.o fK) ?_;refine dh 3 _ ?_;refine kI 4 λK p=>?_
      go_wp2_with fail
      refine(C9.o _).mono ?_;rintro e W ⟨v,rfl,ho,hb⟩;replace S:=S.iv hb ho rfl rfl;clear ho;refine gq p ?_;refine kI 5 λK p=>?_;refine kq S 4 rfl rfl rfl x.o fK (dJ _) λW S=>?_;refine gq p ?_;refine dh 6 _ ?_;refine dh 7 _ ?_;refine qx ?_
      go_wp2_with (refine mA ?_;exact⟨_,by rw[dk (q:=cX) rfl];rfl,S.o0,S.x,S.fr⟩)
    )
def Kl(P D d:Nat)(s:Pl)(q:cQ)(hq:dD q)(st:Nat)(w:World)(h:fc w P D d s):
 CP_ 89 #[bW (cu ⟨P,0,cw⟩),mO q,bU ct (st:Nat)] w λe w'=>∃r,e=cj (cg #[r,bU cq (gY s q st).2.2])/\il w' w.h.s r (gY s q st).2.1/\fc w' P D d (gY s q st).1/\Fr (cu D) [] w w':=by
 obtain⟨A,hA⟩:=fP (cL 3 (dF q));rw[dk hA];have HA:=cz hA;clear hA;have HQ:=cz hq;clear hq;have S:=St.start w (cu D) [] (dQ P D d s) h;have J:=cz λw=>dk HA.o▸BW q st w;have C2:=cz λw h=>dk HA.o▸x7 P D d s q HQ.o w h;have S0:=h;clear h;go_enter func89,ntmps89;cases Q:jV q st with
 |false=>
  rw[Q] at J;rw[Xy Q];go_wp2_with (first|refine je S (J.o _) λW S=>?_|go_step3|simp only[Av,Aw]|refine fL ?_|refine fg λW S=>?_);try rw[Exit.noGoto_ret]
  go_ret2;exact⟨_,rfl,il.nil _ _,S.x,S.fr⟩
 |true=>
  rw[Q] at J;rcases hu:du s q with⟨s1,H,c1⟩;rw[hu] at C2;by_cases hc:c1=0
  . subst hc;rw[Xz Q hu];go_wp2_with (first|refine je S (J.o _) λW S=>?_|(refine(C2.o _ S.x).mono ?_;rintro e W ⟨N,rfl,O,u,l⟩;have HN:=cz O;replace S:=S.call l (λD e=>e) eQ (dQ P D d s1) (λ_ _=>u);clear u l O)|go_step3|simp only[Av,Aw]|refine fL ?_|refine fg λW S=>?_);have S:=cz (show St w (cu D) [] _ [⟨106,3,_,1,iS [q]⟩] _ _ from by have:=(S.Ug rfl);rw[qe];exact this);have HL:=cz λk=>yV (s:=s) (by exact S0.dev.ok) q k;go_loopw [33,10] (λi v wr=>∃k M s',k<=8/\i=bU cq (k:Nat)/\M.n<=1+9*k/\Hid (vA st ((mr H).take k) (s1,([q],0))=(s',(M,0))/\St w (cu D) [] [⟨_,191,24,eV H⟩,⟨_,106,3,dF q⟩] [⟨106,3,v,M.n,iS M⟩] (C' P D d s') wr)) (λi _ _=>8-(intOf i).m);exact⟨0,[q],s1,cN,rfl,by simp,rfl,S.o⟩;obtain⟨k,M,s',hk,rfl,hM,hS⟩:=hrel;by_cases T:k<8
    . have n:=Mh (jY st) (s1,([q],0)) (mr H) (k:=k) (by rw[qf];exact T);rw[Jm] at n;have c:=hS.o.1;unfold vA at c;rw[c] at n;clear c;replace S:=hS.o.2;clear hS;obtain⟨p,u⟩:=dI (H k);have a6:dD p:=by have:=HL.o k;rw[hu] at this;rw[<-u];exact this
      obtain⟨C,hC⟩:=fP (cL 3 (dF p));have y:=cz λW=>(show(Instr.index 191 (bV N) (bU cq (k:Nat))).run prog W=.ok (bV C) W by rw[HN.o,hC,<-u];exact B8 H k T W);rw[u] at n;have b:=cz n;have Z:=cz hC;clear hC n;have K:=cz λw=>dk Z.o▸BW p st w;have C4:=cz λw h=>dk Z.o▸x7 P D d s' p a6 w h;cases U:jV p st with
      |false=>(rw[U] at K;have o:jY st (s',(M,0)) p=(s',(M,0)):=by unfold jY;simp[U]);rw[o] at b;go_wp2_with (first|refine J7 rfl rfl y.o ?_|refine oX S rfl rfl Z.o fK rfl (by rfl) (dJ _) λW S=>?_|refine je S (K.o _) λW S=>?_|go_step3|simp only[Av,Aw]|refine fL ?_);replace S:=cz (And.intro b.o S.pop);go_roundw;exact⟨k+1,M,s',cN,by go_num,cN,S⟩;simp[intOf];omega
      |true=>
       rw[U] at K;rcases hu2:du s' p with⟨s2,l2,c2⟩;rw[hu2] at C4;by_cases t:c2=0
       . (subst t;have o:jY st (s',(M,0)) p=(s2,(M++p:: (mr l2).filter (jV · st),0)):=by unfold jY;simp[U,hu2]);rw[o] at b;go_wp2_with (first|refine J7 rfl rfl y.o ?_|refine je S (K.o _) λW S=>?_|(refine(C4.o _ S.x).mono ?_;rintro e W ⟨N2,rfl,f,m,l⟩;have z:=cz f;replace S:=S.call l (λD e=>e) eQ (dQ P D d s2) (λ_ _=>m);clear m l f)|refine tA S 0 rfl 0 rfl rfl rfl rfl gX (dJ _) (by simp only;omega) (by unfold maxLen;simp only;omega) λg cap W S=>?_|go_step3|simp only[Av,Aw]|refine fL ?_|refine fg λW S=>?_);(obtain⟨G,hG⟩:=fP (M++[p]);have a3:G.n=M.n+1:=by rw[hG];simp);(have S:=cz (show St w (cu D) [] _ [⟨106,3,bX (cu ⟨g,0,cw⟩) (M.n+1) cap,G.n,iS G⟩] _ _ from by rw[a3,hG,jk,qe];exact S.pop);have x:∀F,M++p::F=G++F:=λF=>by rw[hG,wP];rfl);rw[x] at b;clear x hG;go_loopw [10,54] (λv i wr=>∃j,j<=8/\i=bU cq (j:Nat)/\Hid (St w (cu D) [] [⟨_,191,24,eV l2⟩,⟨_,106,3,dF p⟩,⟨_,191,24,eV H⟩,⟨_,106,3,dF q⟩] [⟨106,3,v,(G++((mr l2).take j).filter (jV · st)).n,iS (G++((mr l2).take j).filter (jV · st))⟩] (C' P D d s2) wr)) (λ_ i _=>8-(intOf i).m);exact⟨0,cN,rfl,cz (by rw[take_zero,filter_nil,wR];exact S.o)⟩;obtain⟨j,hj,rfl,hS⟩:=hrel;by_cases R:j<8
         . (have a:=zX (jV · st) (mr l2) (k:=j) (by rw[qf];exact R);rw[Jm] at a;obtain⟨r,hr⟩:=dI (l2 j);obtain⟨B,hB⟩:=fP (cL 3 (dF r));have L:=cz λW=>(show(Instr.index 191 (bV N2) (bU cq (j:Nat))).run prog W=.ok (bV B) W by rw[z.o,hB,<-hr];exact B8 l2 j R W);rw[hr] at a;have HB:=cz hB;clear hB;have X:=cz λw=>dk HB.o▸BW r st w;have a4:=FW (jV · st) ((mr l2).take j);rw[lP] at a4;obtain⟨Y,I⟩:=fP (G++((mr l2).take j).filter (jV · st));have a7:Y.n<=80:=by rw[I,ji];omega);rw[<-I] at hS;replace S:=hS.o;clear hS;cases V:jV r st with|false=>rw[V] at X a;have HY:Hid (G++((mr l2).take (j+1)).filter (jV · st)=Y):=cz (by rw[a,I];simp);clear a I;go_wp2_with (first|refine J7 rfl rfl L.o ?_|refine oX S rfl rfl HB.o fK rfl (by rfl) (dJ _) λW S=>?_|refine je S (X.o _) λW S=>?_|simp only[Av,Aw]|refine fL ?_);go_roundw;exact⟨j+1,cN,by go_num,by rw[HY.o];exact cz S.pop⟩;simp[intOf];omega|true=>rw[V] at X a;have HY:Hid (G++((mr l2).take (j+1)).filter (jV · st)=Y++[r]):=cz (by rw[a,I];simp);clear a I;go_wp2_with (first|refine J7 rfl rfl L.o ?_|refine je S (X.o _) λW S=>?_|refine tA S 0 rfl 0 rfl rfl rfl rfl gX (dJ _) (by simp only;omega) (by unfold maxLen;simp only;omega) λg cap W S=>?_|simp only[Av,Aw]|refine fL ?_|refine fg λW S=>?_);go_roundw;exact⟨j+1,cN,by go_num,by rw[HY.o,ji,jk,qe];exact cz S.pop.pop⟩;simp[intOf];omega
         . (obtain rfl:j=8:=cN;have E:=hS.o;rw[nU (by rw[qf];exact eN _)] at E;have a2:=cz (And.intro b.o E.pop.pop);have a5:(G++(mr l2).filter (jV · st)).n<=1+9*(k+1):=by have:=FW (jV · st) (mr l2);rw[qf] at this;rw[ji];omega);clear hS E;go_wp2_with (simp only[Av,Aw]);go_roundw;exact⟨k+1,_,s2,cN,by go_num,a5,a2⟩;simp[intOf];omega
       . (have g:(c2 !=0)=cx:=by simpa using t);(have o:jY st (s',(M,0)) p=(s2,([],c2)):=by unfold jY;simp[U,hu2,t]);rw[o] at b;go_wp2_with (first|refine J7 rfl rfl y.o ?_|refine oX S rfl rfl Z.o fK rfl (by rfl) (dJ _) λW S=>?_|refine je S (K.o _) λW S=>?_|(refine(C4.o _ S.x).mono ?_;rintro e W ⟨N2,rfl,f,m,l⟩;have z:=cz f;replace S:=S.call l (λD e=>e) eQ (dQ P D d s2) (λ_ _=>m);clear m l f)|refine oX S rfl rfl z.o CH rfl (by rfl) (nQ _) λW S=>?_|go_step3|simp only[Av,Aw]|refine fL ?_);(try rw[Exit.noGoto_ret]);(go_ret2;have hr:vA st (mr H) (s1,([q],0))=(s2,([],c2)):=by unfold vA;rw[Uh _ _ _ (k+1),b.o];exact abb t);rw[hr];exact⟨_,rfl,il.nil _ _,S.x,S.fr⟩
    . obtain rfl:k=8:=cN;have c:=hS.o.1;rw[nU (by rw[qf];exact eN _)] at c;have a1:=cz c;clear c;replace S:=hS.o.2;clear hS;go_wp2_with (first|go_step3|simp only[Av,Aw]);(try rw[Exit.noGoto_ret]);go_ret2;rw[a1.o];exact⟨_,rfl,S.o0,S.x,S.fr⟩
  . (rw[Ui Q hu hc];have g:(c1 !=0)=cx:=by simpa using hc);go_wp2_with (first|refine je S (J.o _) λW S=>?_|(refine(C2.o _ S.x).mono ?_;rintro e W ⟨N,rfl,O,u,l⟩;have HN:=cz O;replace S:=S.call l (λD e=>e) eQ (dQ P D d s1) (λ_ _=>u);clear u l O)|go_step3|simp only[Av,Aw]|refine fL ?_|refine fg λW S=>?_);go_ret2;exact⟨_,rfl,il.nil _ _,S.x,S.fr⟩
theorem EN{f:β->α->β}{b:β}(h:∀x,f b x=b)(l:List α):l.foldl f b=b:=by induction l<;>grind
def Gx{f:β->α->β}{a b:β}{l:List α}(c:(l.take k).foldl f a=b)(h:∀x,f b x=b):l.foldl f a=b:=by
 conv=>lhs;rw[<-Aj k l]
 rw[BM,c,EN h]
theorem wq{f:β->α->β}{a b:β}{l:List α}{x:α}(c:(l.take k).foldl f a=b)(d:l[k]?=cu x):(l.take (k+1)).foldl f a=f b x:=by grind[take_add_one]
def Aa(l:Nat->cQ)(m:Nat):Bool:=(range 8).all λi=>decide (l i≠cX)==decide (i<m)
theorem X3{l:Nat->cQ}(a:i<8)(h:(decide (l i≠cX)==decide (i<m))=cy):Aa l m=cy:=by grind[Aa]
theorem U2{l:Nat->cQ}(h:∀i,i<8->(decide (l i≠cX)==decide (i<m))=cx):Aa l m=cx:=by grind[Aa]
def fO(l:List cQ):Prop:=∀q∈l,dD q
def dS:fO []:=λ_ h=>absurd h jK
def fU(want:Nat)(a:Pl×(List cQ×Int))(q:cQ):Pl×(List cQ×Int):=
 if a.2.2≠0 then a else
 if(du a.1 q).2.2≠0 then((du a.1 q).1,([],(du a.1 q).2.2)) else
 if Aa (du a.1 q).2.1 (min 8 (want-a.2.1.n))=cx then((du a.1 q).1,(a.2.1++(mr (du a.1 q).2.1).take (min 8 (want-a.2.1.n)),0))
 else((du a.1 q).1,([],91))
def fV(s:Pl)(l:List cQ)(want:Nat):Pl×(List cQ×Int):=l.foldl (fU want) (s,([],0))
theorem MM(hc:c≠0)(q:cQ):fU want (s,([],c)) q=(s,([],c)):=by grind[fU]
def zt{l M:List cQ}(a:(l.take k).foldl (fU want) (s,([],0))=(s1,(M,0)))(b:l[k]?=cu q)(d:fU want (s1,(M,0)) q=(s2,([],c)))(hc:c≠0):fV s l want=(s2,([],c)):=
 Gx (k:=k+1) ((wq a b).trans d) (MM hc)
theorem X4(b y:Nat)(e:y<=8)(W:cS):(Instr.sliceAt 191 (bW (cu ⟨b,0,cw⟩)) cw (cu (.int cq y)) cw).run prog W=.ok (bX (cu ⟨b,0,cw⟩) y 8) W:=by have d:prog.underlying 191=cu (.array 8 106):=Gf;obtain⟨f,a,c⟩:=wE kx;simp_all[Instr.sliceBound,asIntOf,Instr.sliceAt,Instr.sureAddr,Instr.sliceBounds,Addr.add]
theorem EO(h:cM w b t n f)(c:xs.n=m*z)(a:m<=cap)(hc:cap<=maxLen)(d:∀j u,xs[j]?=cu u->j<n/\f j=u):c8 w t z (bX (cu ⟨b,0,cw⟩) m cap) m xs:=
 ⟨c,_,_,ae,a,hc,λ_=>⟨b,0,_,_,ae,h,λj u e=>by
  simp_all[dy]⟩⟩
theorem X5(l:Nat->cQ)(e:m<=8):∀j u,(iS ((mr l).take m))[j]?=cu u->j<24/\eV l j=u:=by
 intro j u h;have d:((mr l).take m).n=m:=by grind[qf]
 have c:j<m*3:=by grind[yW]
 have a:j/3<((mr l).take m).n:=cN;have b:=kE ((mr l).take m) a (A:=cL 3 (dF (l (j/3)))) (by
  grind[Jm]) (j%3) cN
 rw[show j/3*3+j%3=j by omega,h,dy,df cN] at b;grind[eV]
def O3(P D H:Nat)(s:Pl)(l:List cQ)(v:c7)(b5:l.n<=1000000)(hl:∀q∈l,dD q)(want:Nat)(hw:want<=1000000)(w:cS)(h:fc w P D H s)(R:lk w v l):
 CP_ 193 #[bW (cu ⟨P,0,cw⟩),v,bU cq want] w λe w'=>∃r,e=cj (cg #[r,bU cq (fV s l want).2.2])/\il w' w.h.s r (fV s l want).2.1/\fO (fV s l want).2.1/\fc w' P D H (fV s l want).1/\Fr (cu D) [] w w':=by
 obtain⟨ao,cap,rfl,b1,X⟩:=dP R;have RL:=cz R;have X:=cz X;have HQ:=cz hl;have S:=St.start w (cu D) [] (dQ P D H s) h;clear R hl h;go_enter func193,ntmps193;go_wp2_with (refine J9 S (by':=24) gX rfl rfl cN xZ rfl rfl λg W S=>?_);go_loopw [21,8] (λi u wr=>∃k M s' ua uc,k<=l.n/\i=bU cq k/\M.n<=want/\u=bX ua M.n uc/\Hid ((l.take k).foldl (fU want) (s,([],0))=(s',(M,0))/\(∀q∈M,dD q)/\St w (cu D) [] [] [⟨106,3,bX ua M.n uc,M.n,iS M⟩] (C' P D H s') wr)) (λi _ _=>l.n-(intOf i).m);exact⟨0,[],s,_,_,cN,rfl,by simp,rfl,cz ⟨rfl,λ_ h=>absurd h jK,S⟩⟩;clear S;obtain⟨k,M,s',ua,uc,hk,rfl,hM,rfl,hS⟩:=hrel;by_cases z:k<l.n
 . (obtain⟨b,o,rfl⟩:=X.o cN;obtain⟨q,O⟩:=dI (l[k]);have n:l[k]?=cu q:=by rw[jE z,O]);(obtain⟨AQ,V⟩:=fP (cL 3 (dF q));have G:=cz (kE l z (A:=AQ) (by rw[O];exact V));have a9:dD q:=HQ.o q (O▸mP _);have d:=cz V;obtain⟨S,S2⟩:Hid (St w (cu D) [] [] [⟨106,3,bX ua M.n uc,M.n,iS M⟩] (C' P D H s') wr)/\Hid ((l.take k).foldl (fU want) (s,([],0))=(s',(M,0))):=⟨cz hS.o.2.2,cz hS.o.1⟩;have U:=cz hS.o.2.1;have C:=DC S.o.x.dev.ok q;have S:=S.o;clear hS O V;have C1:=cz λW h=>dk d.o▸z8 P D H s' q a9 W h;have a:du s' q=if(gr s' q).2.2≠0 then((gr s' q).1,(mX,(gr s' q).2.2)) else match pZ (gr s' q).2.1 with|none=>((gr s' q).1,(mX,91))|some l=>((gr s' q).1,(l,0)):=rfl);rcases hg:gr s' q with⟨s1,p,c1⟩;rw[hg] at C1 C a;simp only at C1 C a;clear hg;by_cases hc:c1=0
   . subst hc;rw[cZ eQ] at a;cases hn:pZ p with
     |none=>rw[hn] at a;have c:fV s l want=(s1,([],91)):=zt S2.o n (by unfold fU;rw[a];simp) kB;have f:=cz c;have I:=cz λB(t:B=cL 128 (dg p))W=>Ca p C B t W;rw[hn] at I;have x:gi 51 (cw:Option (Nat->cQ))=51:=rfl;rw[x] at I;clear c a n hn x;go_wp2_with (first|refine AD (RL.o.fr S.fr (.inr rfl) rfl) z (vu d) G.o ?_|refine oX S rfl rfl d.o fK rfl nz (dJ _) λW S=>?_|(refine(C1.o _ S.x).mono ?_;rintro e W ⟨B,rfl,t,L,K⟩;have T:=cz t;replace S:=S.call K (λD e=>e) eQ (dQ P D H s1) (λ_ _=>L);clear L K t)|refine oX S rfl rfl T.o Cd rfl nz (jC _) λW S=>?_|(refine(I.o _ T.o _).mono ?_;rintro e W ⟨N,rfl,hN,hb⟩;have HN:=cz hN;replace S:=S.cP hb;clear hb hN)|refine oX S rfl rfl HN.o CH rfl nz (nQ _) λW S=>?_|refine fL ?_);go_ret2;rw[f.o];exact⟨_,rfl,il.nil _ _,dS,S.x,S.fr⟩
     |some l1=>
      rw[hn] at a;have I:=cz λB(t:B=cL 128 (dg p))W=>Ca p C B t W;rw[hn] at I;have x:gi 51 (cu l1)=0:=rfl;rw[x] at I;simp only[lx] at I;clear x;obtain⟨m,hm⟩:=fP (min 8 (want-M.n));have c:fU want (s',(M,0)) q=if Aa l1 m=cx then(s1,(M++(mr l1).take m,0)) else(s1,([],91)):=by unfold fU;rw[a,hm];simp
      have f:=cz c;have a2:=cz n;have a7:=cz (zW C hn);have Z:m<=8:=cN;have b6:min (8:Int) ((want:Int)-(M.n:Int))=(m:Int):=cN;have HM:=cz hm;clear a hn c n hm
      go_wp2_with first|refine AD (RL.o.fr S.fr (.inr rfl) rfl) z (vu d) G.o ?_|refine oX S rfl rfl d.o fK rfl nz (dJ _) λW S=>?_|(refine(C1.o _ S.x).mono ?_;rintro e W ⟨B,rfl,t,L,K⟩;have T:=cz t;replace S:=S.call K (λD e=>e) eQ (dQ P D H s1) (λ_ _=>L);clear L K t)|refine oX S rfl rfl T.o Cd rfl nz (jC _) λW S=>?_|(refine(I.o _ T.o _).mono ?_;rintro e W ⟨N,rfl,hN,hb⟩;have HN:=cz hN;replace S:=S.cP hb;clear hb hN)|refine oX S rfl rfl HN.o CH rfl nz (nQ _) λW S=>?_|refine fL ?_
      have b2:=S2
      go_loopw [47] (λi wr=>∃j:Nat,j<=8/\i=bU cq j/\Hid ((∀r,r<j->(decide (l1 r≠cX)==decide (r<m))=cx)/\St w (cu D) [] [⟨_,191,24,eV l1⟩,⟨_,36,128,dg p⟩,⟨_,106,3,dF q⟩] [⟨106,3,bX ua M.n uc,M.n,iS M⟩] (C' P D H s1) wr)) (λi _=>8-(intOf i).m)
      case atStart=>exact⟨0,cN,rfl,cz ⟨λr h=>by omega,S⟩⟩
      case round=>
       clear S;obtain⟨j,hj,rfl,hS⟩:=hrel;by_cases a3:j<8
       . obtain⟨r,hr⟩:=dI (l1 j);obtain⟨E,hE⟩:=fP (cL 3 (dF r));have a5:=cz λW=>(show(Instr.index 191 (bV N) (bU cq j)).run prog W=.ok (bV E) W by rw[HN.o,hE,<-hr];exact B8 l1 j a3 W);have HE:=cz hE;clear hE;have a4:=cz hS.o.1;have S:=hS.o.2;clear hS;obtain⟨bq,Y⟩:=dI (decide (r=cX));have b7:∀W,(binOp .neq 106 (bV E) (bV #[Value.int cq 0,bU ct 0,bU .u32 0])).run prog W=.ok (bZ !bq) W:=λW=>by
          have:=F9 r cX bq Y W;rw[dk HE.o] at this;exact this
         have J:Hid (decide (l1 j≠cX)= !bq):=cz (by rw[hr,<-Y];simp);clear hr Y;cases bq<;>by_cases b4:(j:Int)<(m:Int)
         all_goals(
         have b3:=cz (show decide (j<m)=decide ((j:Int)<(m:Int)) from by simp)
         go_wp2_with first|refine J7 rfl rfl a5.o ?_|refine oX S rfl rfl HE.o fK rfl nz (dJ _) λW S=>?_|refine fL ?_
         first
          |(go_ret2;rw[zt S2.o a2.o (by rw[f.o,X3 a3 (by rw[J.o];by_cases h9:j<m<;>simp[h9]<;>omega)];rfl) kB];exact⟨_,rfl,il.nil _ _,dS,S.x,S.fr⟩)
          |(go_roundw
            case rel=>
             refine⟨j+1,cN,by go_num,cz ⟨λq O=>?_,S.pop⟩⟩;rcases Di.1 O with h|h
             . exact a4.o q h
             . rw[h,J.o];by_cases h9:j<m<;>simp[h9]<;>omega
            case measure=>simp[intOf];omega)
         )
       . obtain rfl:j=8:=cN;have Q:=U2 hS.o.1;have S:=hS.o.2;have F:=f.o;rw[df Q] at F;have a6:=cz (wq S2.o a2.o |>.trans F);have a:((mr l1).take m).n=m:=by rw[lP,qf];omega
         have a8:M.n+m<=want:=by have:=HM.o;omega
         clear hS Q F
         go_wp2_with first|((with_reducible refine Zo 61 191 13 ?_);refine nH rfl 191 (.tmp 13) cw (cu (.tmp 60)) cw rfl _ (X4 _ m Z _) ?_)|(refine Gq S 0 rfl (by':=24) rfl rfl (EO S.k0 (by rw[yW,a]) Z xZ (X5 l1 Z)) gX (oO _) CK xZ ?_;clear S;intro v' W S)
         have HF:Hid (∃va vc,v'=bX va (M.n+m) vc):=cz (dx S.o0);go_roundw
         case rel=>
          obtain⟨va,vc,rfl⟩:=HF.o;refine⟨k+1,M++(mr l1).take m,s1,va,vc,cN,by go_num,by rw[ji,a];exact a8,by rw[ji,a],cz ⟨a6.o,λq O=>?_,?_⟩⟩
          . rcases gH.1 O with h|h
            . exact U.o q h
            . obtain⟨r,_,rfl⟩:=gI.1 (lQ h);exact a7.o r
          rw[ji,a,jk];exact S.pop.pop.pop
         case measure=>exact pR
   . (have c:fV s l want=(s1,([],c1)):=by rw[df hc] at a;exact zt S2.o n (by unfold fU;rw[a];simp[hc]) hc);have f:=cz c;have g1:(c1 !=0)=cx:=fJ.2 hc;have HC:=cz hc;clear c a hc n;go_wp2_with (first|refine AD (RL.o.fr S.fr (.inr rfl) rfl) z (vu d) G.o ?_|refine oX S rfl rfl d.o fK rfl nz (dJ _) λW S=>?_|(refine(C1.o _ S.x).mono ?_;rintro e W ⟨B,rfl,t,L,K⟩;have T:=cz t;replace S:=S.call K (λD e=>e) eQ (dQ P D H s1) (λ_ _=>L);clear L K t)|refine oX S rfl rfl T.o Cd rfl nz (jC _) λW S=>?_|refine fL ?_);go_ret2;rw[f.o];exact⟨_,rfl,il.nil _ _,dS,S.x,S.fr⟩
 . obtain rfl:k=l.n:=cN;have y:=hS.o.1;rw[qq] at y;have a1:=cz (show fV s l want=(s',(M,0)) from y);have U:=cz hS.o.2.1;have S:=hS.o.2.2;clear hS y;go_wp2;go_ret2;rw[a1.o];exact⟨_,rfl,S.o0,U.o,S.x,S.fr⟩
def jU(a:Pl×(cV×Int))(q:cQ):Pl×(cV×Int):=
 if a.2.2≠0 then a else
 if(gr a.1 q).2.2≠0 then((gr a.1 q).1,([],(gr a.1 q).2.2)) else((gr a.1 q).1,(a.2.1++(gr a.1 q).2.1,0))
def pH(s:Pl)(l:List cQ):Pl×(cV×Int):=l.foldl jU (s,([],0))
def eX(s:Pl)(l:List cQ)(n:Nat):Pl×(cV×Int):=
 if(pH s l).2.2≠0 then((pH s l).1,([],(pH s l).2.2)) else
 if((pH s l).2.1.drop n).all (λc=>decide (c=0))=cx then((pH s l).1,((pH s l).2.1.take n,0)) else((pH s l).1,([],91))
theorem O5(hc:c≠0)(q:cQ):jU (s,([],c)) q=(s,([],c)):=by grind[jU]
def U3{l:List cQ}{M:cV}(a:(l.take k).foldl jU (s,([],0))=(s1,(M,0)))(b:l[k]?=cu q)(d:jU (s1,(M,0)) q=(s2,([],c)))(hc:c≠0):pH s l=(s2,([],c)):=
 Gx (k:=k+1) ((wq a b).trans d) (O5 hc)
structure H9(w:cS)(base:Nat)(v:c7)(l:cV):Prop where
 sl:c8 w 5 1 v l.n (ej l)
 new:0<l.n->∀b,v.ownBlock=cu b->base<=b
 lt:∀x∈l,x<256
def H9.nil(w:cS)(base:Nat):H9 w base (bX cw 0 0) []:=⟨c8.nil _ _ _,λh=>absurd h (ud _),λ_ h=>absurd h jK⟩
theorem c8.cut{c:Nat}(h:c8 w e z (bX ao n c) n xs)(k:i<=n):c8 w e z (bX ao i i) i (xs.take (i*z)):=by obtain⟨d,b,cap,a,f,g,j⟩:=h;simp only[ly] at a;obtain⟨rfl,-,rfl⟩:=a;refine⟨by simp_all,ao,i,ae,eN _,cN,λh=>?_⟩;grind
def aer{a:Option Addr}{c e d:Nat}(h:(Value.slice a n c).ownBlock=cu b):(Value.slice a e d).ownBlock=cu b:=by cases a<;>exact h
theorem abF(h:Gr P t z)(ao:Option Addr)(n c y:Nat)(a:y<=c)(W:cS):(Instr.sliceAt t (bX ao n c) cw (cu (.int cq y)) (cu (.int cq y))).run P W=.ok (bX ao y y) W:=by rw[zh h,run_slice_hm W t ao n c h.1 cq cq (y:Nat) (y:Nat) cN cN cN,h.2];simp_all[sliced,Addr.add]
theorem Ax(l m:cV):ej (l++m)=ej l++ej m:=by grind[ej]
theorem aiC{s:cV}(h:cM w E 36 128 (dg s))(a:j0 s):c8 w 36 1 (bX (cu ⟨E,0,cw⟩) 128 128) 128 (ej s):=by have b:=(lN.sec h a).1;grind[c8,ej]
theorem Sa(P D y:Nat)(s:Pl)(l:List cQ)(v:c7)(c3:l.n<=100000)(hl:fO l)(n:Nat)(hn:n<=l.n*128)(w:cS)(h:fc w P D y s)(R:lk w v l):
 CP_ 194 #[bW (cu ⟨P,0,cw⟩),v,bU cq n] w λe w'=>∃r,e=cj (cg #[r,bU cq (eX s l n).2.2])/\H9 w' w.h.s r (eX s l n).2.1/\fc w' P D y (eX s l n).1/\Fr (cu D) [] w w':=by
 obtain⟨ao,cap,rfl,b6,Y⟩:=dP R;have RL:=cz R;have Y:=cz Y;have HQ:=cz hl;have S:=St.start w (cu D) [] (dQ P D y s) h;clear R hl h;have w1:IntKind.i64.wrap ((l.n:Int)*128)=((l.n*128:Nat):Int):=by rw[kS _ cN];omega
 go_enter func194,ntmps194;go_wp2_with (refine J9 S (by':=1) (n:=l.n*128) Cg rfl rfl cN xZ rfl rfl λg W S=>?_);go_loopw [21,8] (λi u wr=>∃k M s' L G,k<=l.n/\i=bU cq k/\M.n=k*128/\u=bX L (k*128) G/\Hid ((l.take k).foldl jU (s,([],0))=(s',(M,0))/\(∀x∈M,x<256)/\St w (cu D) [] [] [⟨5,1,bX L (k*128) G,k*128,ej M⟩] (C' P D y s') wr)) (λi _ _=>l.n-(intOf i).m);exact⟨0,[],s,_,_,cN,rfl,by simp,by rw[xx],cz ⟨rfl,λ_ h=>absurd h jK,by rw[xx];exact S⟩⟩;clear S;obtain⟨k,M,s',L,G,hk,rfl,hM,rfl,hS⟩:=hrel;by_cases z:k<l.n
 . (obtain⟨b,o,rfl⟩:=Y.o cN;obtain⟨q,hq⟩:=dI (l[k]);have F:l[k]?=cu q:=by rw[jE z,hq]);(obtain⟨AQ,V⟩:=fP (cL 3 (dF q));have K:=cz (kE l z (A:=AQ) (by rw[hq];exact V));have b5:dD q:=HQ.o q (hq▸mP _);have f:=cz V;have S2:=cz hS.o.1;have Q:=cz hS.o.2.1;have S:=hS.o.2.2;have m:=cz hM;have C:=DC S.x.dev.ok q;clear hS hq V hM;have C1:=cz λW h=>dk f.o▸z8 P D y s' q b5 W h;have d:jU (s',(M,0)) q=if(gr s' q).2.2≠0 then((gr s' q).1,([],(gr s' q).2.2)) else((gr s' q).1,(M++(gr s' q).2.1,0)):=by unfold jU;simp);rcases hg:gr s' q with⟨s1,a7,c1⟩;rw[hg] at C1 C d;simp only at C1 C d;clear hg;by_cases hc:c1=0
   . subst hc;rw[cZ eQ] at d;have a8:=cz ((wq S2.o F).trans d);have T:=cz C;have a9:=cz λW E(h:cM W E 36 128 (dg a7))=>aiC h T.o;clear d F C;go_wp2_with (first|refine AD (RL.o.fr S.fr (.inr rfl) rfl) z (vu f) K.o ?_|refine oX S rfl rfl f.o fK rfl nz (dJ _) λW S=>?_|(refine(C1.o _ S.x).mono ?_;rintro e W ⟨B,rfl,hB,hp,hf⟩;have HB:=cz hB;replace S:=S.call hf (λD e=>e) eQ (dQ P D y s1) (λ_ _=>hp);clear hB)|refine oX S rfl rfl HB.o Cd rfl nz (jC _) λW S=>?_|((with_reducible refine Zo 35 36 11 ?_);refine nH rfl 36 (.tmp 11) cw cw cw rfl _ (aaT _ _) ?_)|((with_reducible refine Uf 36 34 35 ?_);refine Gq S 0 rfl (by':=1) rfl rfl (a9.o _ _ S.k0) Cg (F7 _) CK xZ ?_;clear S;intro v' W S)|refine fL ?_);have HF:Hid (∃va vc,v'=bX va (k*128+128) vc):=cz (dx S.o0);go_roundw;obtain⟨va,vc,rfl⟩:=HF.o;refine⟨k+1,M++a7,s1,va,vc,cN,by go_num,by rw[ji,m.o,T.o.1];omega,by rw[succ_mul],cz ⟨a8.o,λx hx=>(gH.1 hx).elim (Q.o x) (T.o.2 x),?_⟩⟩;rw[succ_mul,Ax];exact S.pop.pop;exact pR
   . (have a:pH s l=(s1,([],c1)):=by rw[df hc] at d;exact U3 S2.o F d hc);(have J:eX s l n=(s1,([],c1)):=by unfold eX;rw[a];simp[hc]);have p:=cz J;have g1:(c1 !=0)=cx:=fJ.2 hc;have HC:=cz hc;clear a d hc F J;go_wp2_with (first|refine AD (RL.o.fr S.fr (.inr rfl) rfl) z (vu f) K.o ?_|refine oX S rfl rfl f.o fK rfl nz (dJ _) λW S=>?_|(refine(C1.o _ S.x).mono ?_;rintro e W ⟨B,rfl,hB,hp,hf⟩;have HB:=cz hB;replace S:=S.call hf (λD e=>e) eQ (dQ P D y s1) (λ_ _=>hp);clear hB)|refine oX S rfl rfl HB.o Cd rfl nz (jC _) λW S=>?_|refine fL ?_);go_ret2;rw[p.o];exact⟨_,rfl,H9.nil _ _,S.x,S.fr⟩
 . (obtain rfl:k=l.n:=cN;have t:=hS.o.1;rw[qq] at t;have a4:=cz (show pH s l=(s',(M,0)) from t);have Q:=cz hS.o.2.1;have S:=hS.o.2.2;have m:=cz hM;have I:eX s l n=if(M.drop n).all (λc=>decide (c=0))=cx then(s',(M.take n,0)) else(s',([],91)):=by unfold eX;rw[a4.o];simp);(have O:=cz I;clear hS t I hM;obtain⟨N,hN⟩:=dI (l.n*128);rw[hN] at hn m S;rw[hN];have b7:((l.n:Nat):Int)*128=(N:Int):=cN;obtain⟨da,a2⟩:=yB (lz L G n 1);have X:∀W,St w (cu D) [] [] [⟨5,1,bX L N G,N,ej M⟩] (C' P D y s') W->c8 W 5 1 (bX da (N-n) (G-n)) (N-n) (ej (M.drop n)):=λW S=>by have U:=S.q0.CU hn;rw[sM,xo,<-a2.o] at U;exact U);(have a5:=cz X;have H:0<N-n->∃b o,da=s_ b o:=by obtain⟨_,_,he,_,h2⟩:=dP (X _ S);simp only[ly] at he;rw[he.1];exact h2);(have a3:=cz H;have b1:(M.drop n).n=N-n:=by rw[tY,m.o]);clear X H;go_wp2_with (refine zi ve rfl rfl hn ?_;rw[<-a2.o]);obtain⟨Z,hZ⟩:=dI (M.drop n);rw[hZ] at O a5 b1;go_loopw [42] (λi wr=>∃j:Nat,j<=N-n/\i=bU cq j/\Hid ((∀r c,r<j->Z[r]?=cu c->c=0)/\St w (cu D) [] [] [⟨5,1,bX L N G,N,ej M⟩] (C' P D y s') wr)) (λi _=>(N-n)-(intOf i).m);exact⟨0,cN,rfl,cz ⟨λr c h=>by omega,S⟩⟩;clear S;obtain⟨j,hj,rfl,hS⟩:=hrel;by_cases b9:j<N-n
   . obtain⟨b,o,rfl⟩:=a3.o cN;have b3:j<Z.n:=cN;obtain⟨c,hc⟩:∃c,Z[j]?=cu c:=⟨_,jE b3⟩;have a6:=cz hS.o.1;have S:=hS.o.2;clear hS;have b2:=(a5.o _ S).cellAt cN (show(ej Z)[j]?=cu (.int .u8 c) from by unfold ej;rw[rO,hc];rfl);have HC:=cz hc;clear hc;have b8:(j:Int)<((N-n:Nat):Int):=cN;by_cases a1:c=0
     . have g:((c:Nat):Int)=0:=cN;subst a1;go_wp2;go_roundw;refine⟨j+1,cN,by go_num,cz ⟨λr c hr hc=>?_,S⟩⟩;rcases Di.1 hr with h|h;exact a6.o r c h hc;rw[h,HC.o] at hc;exact(wT hc).symm;exact pR
     . (have g:(((c:Nat):Int) !=0)=cx:=by rw[fJ];omega);(have a:eX s l n=(s',([],91)):=by rw[O.o,cZ];intro U;have h8:=rz.1 U c (kA HC.o);exact a1 (by simpa using h8));have p:=cz a;clear a a1;go_wp2;go_ret2;rw[p.o];exact⟨_,rfl,H9.nil _ _,S.x,S.fr⟩
   . (obtain rfl:j=N-n:=cN;have a:eX s l n=(s',(M.take n,0)):=by rw[O.o,df];rw[rz];intro c hc;obtain⟨i,hi,rfl⟩:=vJ.1 hc;simpa using hS.o.1 i Z[i] cN (jE hi));(have p:=cz a;have S:=hS.o.2;clear hS a;have b4:n<=G:=by obtain⟨_,_,he,c2,_⟩:=dP S.q0;grind);go_wp2_with (refine nH rfl 22 (.tmp 49) cw (cu (.tmp 50)) (cu (.tmp 51)) rfl _ (abF ve L N G n b4 _) ?_);go_ret2;rw[p.o];refine⟨bX L n n,rfl,⟨?_,λ_ b hb=>?_,λx hx=>Q.o x (lQ hx)⟩,S.x,S.fr⟩;have U:=S.q0.cut hn;rw[sM,um] at U;rw[show(M.take n).n=n by rw[lP,m.o];omega];exact U;exact(S.o0.lt b (aer hb)).1
end
theorem MO(f s:Nat):(jW f s)[0]?=cu s:=by cases f<;>grind[jW]
theorem X6(f:Nat):∀s,1<=s->s<=8^f->(jW f s).getLast?=cu 1:=by
 induction f with
 |zero=>
  intro s a b;obtain rfl:s=1:=by(have:8^0=1:=rfl);omega
  rfl
 |succ f ih=>
  intro s a b;unfold jW;split;next h=>(have c:8^(f+1)=8*8^f:=by rw[Nat.pow_succ,Nat.mul_comm]);rw[getLast?_cons,ih ((s+7)/8) cN cN];rfl
  obtain rfl:s=1:=cN;rfl
theorem X7(f:Nat):∀s i x y,(jW f s)[i]?=cu x->(jW f s)[i+1]?=cu y->x<=8*y:=by
 induction f with
 |zero=>grind[jW]
 |succ f ih=>
  intro s i x y a b;unfold jW at a b;split at a;next h=>rw[df h] at b;grind[MO]
  grind
theorem O6(h:(fU want a q).2.2=0):a.2.2=0/\(fU want a q).2.1.n=a.2.1.n+min 8 (want-a.2.1.n):=by unfold fU at h|-;by_cases b:a.2.2≠0;grind;rw[cZ b] at h|-;by_cases c:(du a.1 q).2.2≠0;grind;rw[cZ c] at h|-;refine⟨cN,?_⟩;split;grind[qf];grind
theorem Qo(want:Nat):∀(l:List cQ)(a:Pl×(List cQ×Int)),(l.foldl (fU want) a).2.2=0->a.2.1.n<=want->a.2.2=0/\(l.foldl (fU want) a).2.1.n=min (a.2.1.n+8*l.n) want
 | [],a,h,hw=>⟨h,by simp;omega⟩
 |q::l,a,h,hw=>by
  rw[zG] at h|-;by_cases hc:(fU want a q).2.2=0
  . obtain⟨d,b⟩:=O6 hc;obtain⟨_,e⟩:=Qo want l _ h (by rw[b];omega);exact⟨d,by rw[e,b,lr];omega⟩
  . rcases hr:fU want a q with⟨s,m,c⟩;rw[hr] at h hc
    simp_all[EN,fU]
theorem Ft{s':Pl}{l M:List cQ}(h:fV s l want=(s',(M,0))):M.n=min (8*l.n) want:=by have:=(Qo want l (s,([],0)) (by grind[fV]) (gw _)).2;grind[fV]
def iW(a:Pl×(List cQ×List cQ×Int))(want:Nat):Pl×(List cQ×List cQ×Int):=
 if a.2.2.2≠0 then a else
 if(fV a.1 a.2.1 want).2.2≠0 then((fV a.1 a.2.1 want).1,([],[],(fV a.1 a.2.1 want).2.2))
 else((fV a.1 a.2.1 want).1,((fV a.1 a.2.1 want).2.1,a.2.2.1++(fV a.1 a.2.1 want).2.1,0))
theorem O7(hc:c≠0)(n:Nat):iW (s,([],[],c)) n=(s,([],[],c)):=by grind[iW]
def qW(n:Int):cV:=(kM n).dropLast.reverse
def eP(s:Pl)(cO:cQ)(n:Int):Pl×(cV×List cQ×Int):=
 if kM n=[]∨cO=cX then(s,([],[],121)) else
 let r:=(qW n).foldl iW (s,([cO],[cO],0))
 if r.2.2.2≠0 then(r.1,([],[],r.2.2.2)) else
 let t:=eX r.1 r.2.1 n.m
 if t.2.2≠0 then(t.1,([],[],t.2.2)) else(t.1,(t.2.1,r.2.2.1,0))
theorem abG{n:Int}(a:j<(qW n).n):(qW n)[j]?=(kM n)[(kM n).n-2-j]?:=by unfold qW at a|-;grind
theorem Qp(n:Int):(qW n).n=(kM n).n-1:=by grind[qW]
section
variable {a:Act}
end
section
attribute[local irreducible]wpList Code.wp Calls Oper.wp wpAnyH
theorem x8(P D I:Nat)(s:Pl)(cO:cQ)(hr:dD cO)(n:Int)(w:cS)(h:fc w P D I s):
 CP_ 147 #[bW (cu ⟨P,0,cw⟩),mO cO,bU cq n] w λe w'=>∃r q,e=cj (cg #[r,q,bU cq (eP s cO n).2.2.2])/\H9 w' w.h.s r (eP s cO n).2.1/\il w' w.h.s q (eP s cO n).2.2.1/\fO (eP s cO n).2.2.1/\fc w' P D I (eP s cO n).1/\Fr (cu D) [] w w':=by
 obtain⟨A,hA⟩:=fP (cL 3 (dF cO));rw[dk hA];have HA:=cz hA;have C1:=cz λw=>MH n w;have S:=St.start w (cu D) [] (dQ P D I s) h;clear hA;obtain⟨a,l⟩:=dI (kM n);rw[l] at C1;go_enter func147,ntmps147;by_cases h0:a=[]
 . have d:eP s cO n=(s,([],[],121)):=by unfold eP;rw[df (.inl (by rw[l];exact h0))]
   subst h0;have C:=cz d;clear d
   go_wp2_with first|(refine(C1.o _).mono ?_;rintro e W ⟨r,rfl,ho,J⟩;have T:=cz (dx ho);have N:=(S.iv J ho rfl rfl).UI (c8.jR ((S.iv J ho rfl rfl).uS (k:=0) rfl)) (λ_=>rfl) rfl rfl;have S:=N;obtain⟨ra,rc,rfl⟩:=T.o)|refine fg λW S=>?_
   go_ret3;rw[C.o];exact⟨_,_,rfl,H9.nil _ _,il.nil _ _,dS,S.x.1,S.fr⟩
 have c9:1<=n/\n<=65535:=by
  unfold kM at l;split at l
  . exact absurd l.symm h0
  . omega
 obtain⟨k,rfl⟩:∃k:Nat,n=k:=⟨n.m,cN⟩;obtain⟨s0,c1⟩:=dI ((k+127)/128);have L:a=jW 10 s0:=by rw[<-l];unfold kM;rw[cZ cN,<-c1];rfl
 have G:a[0]?=cu s0:=by rw[L];exact MO _ _
 have a1:a.getLast?=cu 1:=by rw[L];exact X6 _ _ cN cN
 have H:∀i x y,a[i]?=cu x->a[i+1]?=cu y->x<=8*y:=by rw[L];exact X7 _ _
 have a9:∀x∈a,x<=512:=by rw[<-l];exact Bk _
 have d1:a.n<=11:=by rw[<-l];exact zr _
 have c2:0<a.n:=BH.2 h0;have X:=cz H;have U:=cz G;have a3:=cz a9;have z:a[a.n-1]?=cu 1:=by rw[<-a1,getLast?_eq_getElem?]
 have V:=cz z;have H0:=cz h0;clear L G H a9 h0 z;obtain⟨bq,Z⟩:=dI (decide (cO=cX));have c4:∀W,(binOp .eql 106 (bV A) (bV #[Value.int cq 0,bU ct 0,bU .u32 0])).run prog W=.ok (bZ bq) W:=λW=>by
  have:=F8 cO cX bq Z W;rw[dk HA.o] at this;exact this
 have g0:((a.n:Int)==0)=cy:=by rw[lR];omega
 cases bq with
 |true=>
  have d:eP s cO k=(s,([],[],121)):=by unfold eP;rw[df (.inr (l6 Z))]
  have C:=cz d;clear d
  go_wp2_with first|refine jj 22 106 4 S 0 HA.o ?_|(refine(C1.o _).mono ?_;rintro e W ⟨r,rfl,ho,J⟩;have T:=cz (dx ho);have N:=(S.iv J ho rfl rfl).UI (c8.jR ((S.iv J ho rfl rfl).uS (k:=0) rfl)) (λ_=>rfl) rfl rfl;have S:=N;obtain⟨ra,rc,rfl⟩:=T.o)|(refine mi dC ?_;refine A7 Mn ?_)|refine fg λW S=>?_
  go_ret3;rw[C.o];exact⟨_,_,rfl,H9.nil _ _,il.nil _ _,dS,S.x.1,S.fr⟩
 |false=>
  have b8:cO≠cX:=yw Z;have d:eP s cO k=(let r:=(qW k).foldl iW (s,([cO],[cO],0));if r.2.2.2≠0 then(r.1,([],[],r.2.2.2)) else let t:=eX r.1 r.2.1 k;if t.2.2≠0 then(t.1,([],[],t.2.2)) else(t.1,(t.2.1,r.2.2.1,0))):=by
   unfold eP;rw[l,cZ (by intro h;rcases h with h|h;exact H0.o h;exact b8 h)];rfl
  have C:=cz d;clear d
  go_wp2_with first|(first|refine jj 22 106 4 S 0 HA.o ?_)|(refine(C1.o _).mono ?_;rintro e W ⟨r,rfl,ho,J⟩;have T:=cz (dx ho);have N:=(S.iv J ho rfl rfl).UI (c8.jR ((S.iv J ho rfl rfl).uS (k:=0) rfl)) (λ_=>rfl) rfl rfl;have S:=N;obtain⟨ra,rc,rfl⟩:=T.o)|(refine mi dC ?_;refine A7 Mn ?_)|refine fL ?_|refine fg λW S=>?_
  have S2:=(S.Ug rfl).Ug rfl;have S3:=S2.UI (c8.jR (S2.uS (k:=0) rfl)) (λ_=>rfl) rfl rfl;rw[show(cL 3 (dF cO)).t=iS [cO] from(qe cO).symm] at S3
  go_loopw [12,10,11] (λi u v wr=>∃j s' f E la lc aa ac,j<=a.n-1/\i=bU cq ((a.n:Int)-2-(j:Nat))/\u=bX la f.n lc/\v=bX aa E.n ac/\Hid (((qW k).take j).foldl iW (s,([cO],[cO],0))=(s',(f,E,0))/\a[a.n-1-j]?=cu f.n/\fO f/\fO E/\E.n<=1+j*512/\
   St w (cu D) [] [⟨w.h.s,106,3,dF cO⟩] [⟨106,3,bX aa E.n ac,E.n,iS E⟩] (λB w=>(C' P D I s' B w/\yX 3 1 (bX ra a.n rc) a.n (qK a) B w)/\yX 106 3 (bX la f.n lc) f.n (iS f) B w) wr)) (λi _ _ _=>(intOf i+1).m)
  case atStart=>exact⟨0,s,[cO],[cO],_,_,_,_,gw _,by simp,rfl,rfl,cz ⟨rfl,V.o,λq hq=>by rw[fM.1 hq];exact hr,λq hq=>by rw[fM.1 hq];exact hr,eN _,S3⟩⟩
  case round=>
   obtain⟨j,s',f,E,la,lc,aa,ac,hj,rfl,rfl,rfl,hS⟩:=hrel;by_cases c6:j<a.n-1
   . have b2:a.n-2-j<a.n:=cN;obtain⟨y,hy⟩:∃y,a[a.n-2-j]?=cu y:=⟨_,jE b2⟩;have d3:y<=8*f.n:=X.o (a.n-2-j) y f.n hy (by rw[show a.n-2-j+1=a.n-1-j by omega];exact hS.o.2.1);have d2:y<=512:=a3.o y (kA hy);have c5:f.n<=512:=a3.o _ (kA hS.o.2.1);have hF:=cz hS.o.1;have b6:=cz hS.o.2.2.1;have Y:=cz hS.o.2.2.2.1;have b7:=hS.o.2.2.2.2.1;have S:=hS.o.2.2.2.2.2;obtain⟨sb,so,b9⟩:∃b o,ra=s_ b o:=by
      obtain⟨_,_,he,_,h2⟩:=dP S.x.1.2.1
      grind
     subst b9;have K:((a.n:Int)-2-(j:Nat))=((a.n-2-j:Nat):Int):=cN;have p:=cz λW(h:yX 3 1 (bX (s_ sb so) a.n rc) a.n (qK a) [] W)=>h.1.cellAt c2 (show(qK a)[a.n-2-j]?=cu (.int cq y) from by unfold qK;rw[rO,hy];rfl);have C2:=cz λW h R=>O3 P D I s' f (bX la f.n lc) cN b6.o y cN W h R;have d:iW (s',(f,E,0)) y=if(fV s' f y).2.2≠0 then((fV s' f y).1,([],[],(fV s' f y).2.2)) else((fV s' f y).1,((fV s' f y).2.1,E++(fV s' f y).2.1,0)):=by unfold iW;simp
     have a6:(qW k)[j]?=cu y:=by rw[abG (by rw[Qp,l];omega),l];exact hy
     rcases hg:fV s' f y with⟨s1,m,c⟩;rw[hg] at C2 d;simp only at C2 d;have a2:=cz a6;clear a6;obtain⟨ix,a7⟩:=dI (a.n-2-j);rw[a7] at K p b2;rw[K];have d4:(ix:Int)<(a.n:Int):=cN;by_cases hc:c=0
     . subst hc;rw[cZ eQ] at d;have b5:=cz ((wq hF.o a2.o).trans d);have b1:m.n=y:=by rw[Ft hg];omega
       have b4:=cz b1;have c7:m.n<=512:=cN;clear d b1
       go_wp2_with first|refine zC (p.o _ ⟨S.x.1.2.1,λ_ _ _ h=>absurd h jK⟩) ?_|(refine(C2.o _ S.x.1.1 S.x.2.1).mono ?_;rintro e W ⟨r,rfl,ho,M,hp,O⟩;have T:=cz (dx ho);have a4:=cz M;have N:=S.uh O (λD e=>e) eQ ((dQ P D I s1).still (fE 3 1 (bX (s_ sb so) a.n rc) a.n (qK a) rfl rfl)) (λB h=>⟨hp,adQ h.1.2 O rfl rfl⟩) ho rfl rfl;clear M;have S:=N.UI (c8.jR (N.uS (k:=0) rfl)) (λ_=>rfl) rfl rfl;obtain⟨ma,mc,rfl⟩:=T.o)|(refine Gq S 0 rfl (by':=24) rfl rfl S.x.2.1 gX (oO _) CK xZ ?_;intro v' W S)
       have b3:Hid (∃va vc,v'=bX va (E.n+m.n) vc):=cz (dx S.o0);go_roundw
       case rel=>
        obtain⟨va,vc,rfl⟩:=b3.o;refine⟨j+1,s1,m,E++m,ma,mc,va,vc,cN,gD (Value.int cq) cN,rfl,by rw[ji],cz ⟨b5.o,?_,a4.o,λq hq=>(gH.1 hq).elim (Y.o q) (a4.o q),by rw[ji];omega,?_⟩⟩
        . rw[show a.n-1-(j+1)=a.n-2-j by omega,hy,b4.o]
        . rw[ji,jk];exact S
       case measure=>simp[intOf]
     . have g1:(c !=0)=cx:=fJ.2 hc;rw[df hc] at d;have Q:eP s cO k=(s1,([],[],c)):=by
        rw[C.o];have h9:(qW k).foldl iW (s,([cO],[cO],0))=(s1,([],[],c)):=Gx (k:=j+1) ((wq hF.o a2.o).trans d) (O7 hc);rw[h9];simp[hc]
       have a5:=cz Q;have HC:=cz hc;clear d Q hc
       go_wp2_with first|refine zC (p.o _ ⟨S.x.1.2.1,λ_ _ _ h=>absurd h jK⟩) ?_|(refine(C2.o _ S.x.1.1 S.x.2.1).mono ?_;rintro e W ⟨r,rfl,ho,M,hp,O⟩;replace S:=S.call O (λD e=>e) eQ (dQ P D I s1) (λ_ _=>hp);clear M)
       go_ret3;rw[a5.o];exact⟨_,_,rfl,H9.nil _ _,il.nil _ _,dS,S.x,S.fr⟩
   . obtain rfl:j=a.n-1:=cN;have hF:=hS.o.1;rw[nU (by rw[Qp,l];omega)] at hF;have a8:f.n=s0:=by
      have h1:=hS.o.2.1;rw[show a.n-1-(a.n-1)=0 by omega,U.o] at h1;exact(wT h1).symm
     have Y:=cz hS.o.2.2.2.1;have b7:=hS.o.2.2.2.2.1;have K:((a.n:Int)-2-((a.n-1:Nat):Int))= -1:=cN;have C3:=cz λW h R=>Sa P D I s' f (bX la f.n lc) cN hS.o.2.2.1 k cN W h R;have S:=hS.o.2.2.2.2.2;have c3:=cz a8;clear a8;have g:eP s cO k=if(eX s' f k).2.2≠0 then((eX s' f k).1,([],[],(eX s' f k).2.2)) else((eX s' f k).1,((eX s' f k).2.1,E,0)):=by
      rw[C.o,hF];simp
     rcases hg:eX s' f k with⟨s1,tx,c⟩;rw[hg] at C3 g;simp only at C3 g;rw[K];by_cases hc:c=0
     . subst hc;rw[cZ eQ] at g;have F:=cz g;clear g
       go_wp2_with (refine(C3.o _ S.x.1.1 S.x.2.1).mono ?_;rintro e W ⟨r,rfl,ho,hp,O⟩;have HO:=cz (And.intro ho.sl (And.intro (λ(h:0<tx.n)b J=>iE S.fr.size (ho.new h b J)) ho.lt));replace S:=S.call O (λD e=>e) eQ (dQ P D I s1) (λ_ _=>hp))
       go_ret3;rw[F.o];exact⟨_,_,rfl,⟨HO.o.1,HO.o.2.1,HO.o.2.2⟩,S.o0,Y.o,S.x,S.fr⟩
     . have g1:(c !=0)=cx:=fJ.2 hc;rw[df hc] at g;have F:=cz g;have HC:=cz hc;clear g hc
       go_wp2_with (refine(C3.o _ S.x.1.1 S.x.2.1).mono ?_;rintro e W ⟨r,rfl,ho,hp,O⟩;replace S:=S.call O (λD e=>e) eQ (dQ P D I s1) (λ_ _=>hp))
       go_ret3;rw[F.o];exact⟨_,_,rfl,H9.nil _ _,il.nil _ _,dS,S.x,S.fr⟩
def jZ(s:Pl)(a:cV):Pl×(cV×List cQ×Int):=
 match nZ (a.take 16) with
 |none=>(s,([],[],51))
 |some cO=>eP s cO ((jL (a.drop 16):Nat):Int)
theorem aj4{bs:cV}(h:bs.n=4):sw [4] bs=cu [jL bs]:=by unfold sw;rw[df ⟨by decide,by rw[h];rfl⟩];have:pz [4] bs=[jL (bs.take 4)]:=rfl;grind
theorem aiD{bs:cV}(h:bs.n=4)(a:∀x∈bs,x<256):jL bs<4294967296:=by grind[EL]
theorem U4(h:w.ownsRow base e z v (n+1) xs):∃g c,v=bX (cu ⟨g,0,cw⟩) (n+1) c:=by grind[ownsRow_succ]
def Km(P D G:Nat)(s:Pl)(a:cV)(T:a.n=20)(k:∀x∈a,x<256)(v:c7)(w:cS)(h:fc w P D G s)(R:c8 w 5 1 v 20 (ej a)):
 CP_ 149 #[bW (cu ⟨P,0,cw⟩),v] w λe w'=>∃r q,e=cj (cg #[r,q,bU cq (jZ s a).2.2.2])/\H9 w' w.h.s r (jZ s a).2.1/\il w' w.h.s q (jZ s a).2.2.1/\fO (jZ s a).2.2.1/\fc w' P D G (jZ s a).1/\Fr (cu D) [] w w':=by
 obtain⟨ao,cap,rfl,Z,Q⟩:=dP R;have RL:=cz R;have S:=St.start w (cu D) [] (dQ P D G s) h;have g:=cz λW u U hc=>wX u (a.take 16) W U hc;have C:=cz λv u W hv U hc=>JX v u [4] (a.drop 16) kB W hv U hc;have t:(a.drop 16).n=4:=by rw[tY,T]
 have h4:=aiD t (λx l=>k x (mS l));rw[aj4 t] at C;have H:gi 21 (cu [jL (a.drop 16)])=0:=rfl;rw[H] at C;simp only[lx] at C;have Y:=cz (show c8 w 5 1 (bX ao 16 cap) 16 (ej (a.take 16)) from by have B:=c8.take R (i:=16) cN;rwa [sM,um] at B);obtain⟨da,E⟩:=yB (lz ao cap 16 1);have M:=cz (show c8 w 5 1 (bX da 4 (cap-16)) 4 (ej (a.drop 16)) from by have B:=c8.CU R (i:=16) cN;rw[sM,xo,<-E.o] at B;exact B);have p:=cz k;have a2:=cz T;have O:=cz (show∀y∈dN [4],(Lit.int cq y).wf=cx by decide);obtain⟨o,z⟩:=dI (jL (a.drop 16));rw[z] at C h4;have c:jZ s a=match nZ (a.take 16) with|none=>(s,([],[],51))|some cO=>eP s cO ((o:Nat):Int):=by unfold jZ;rw[z]
 have d:∀q,nZ (a.take 16)=cu q->dD q:=λq J=>xj (λx l=>k x (lQ l)) J;clear R k T h t H z Q;go_enter func149,ntmps149;cases n:nZ (a.take 16) with
 |none=>rw[n] at g c;have f:gi 51 (cw:Option cQ)=51:=rfl;rw[f] at g;obtain⟨A,m⟩:=fP (cL 3 (dF ((cw:Option cQ).getD cX)));rw[dk m] at g;have L:=cz m;have F:=cz c;clear c f n d m;go_wp2_with (first|refine Uv ve ae ae (y:=16) cN ?_|refine je S (g.o _ _ (Y.o.fr S.fr (.inr rfl) rfl |>.u' (λx l=>p.o x (lQ l))) ⟨_,_,_,rfl,cN⟩) λW S=>?_|refine oX S rfl rfl L.o fK rfl nz (dJ _) λW S=>?_);go_ret3;rw[F.o];exact amC
 |some cO=>
  rw[n] at g c;have f:gi 51 (cu cO)=0:=rfl;rw[f] at g;simp only[lx] at g c;obtain⟨A,m⟩:=fP (cL 3 (dF cO));rw[dk m] at g;have V:=cz λW h=>x8 P D G s cO (d cO n) ((o:Nat):Int) W h;rw[dk m,<-c] at V;have L:=cz m;have a1:IntKind.i64.wrap ((20:Int)-16)=4:=by decide
  have a3:IntKind.i64.wrap ((o:Nat):Int)=((o:Nat):Int):=kS _ cN;clear c f n d m;go_wp2_with (first|refine Uv ve ae ae (y:=16) cN ?_|refine je S (g.o _ _ (Y.o.fr S.fr (.inr rfl) rfl |>.u' (λx l=>p.o x (lQ l))) ⟨_,_,_,rfl,cN⟩) λW S=>?_|refine oX S rfl rfl L.o fK rfl nz (dJ _) λW S=>?_|refine mH S cq (dN [4]) qt uT cN cN rfl rfl rfl λW S=>?_|(refine zi ve ae ae (y:=16) cN ?_;rw[<-E.o])|(refine ah (C.o _ _ _ (eT.row S.k0 ae (show(1:Nat)<=_ by omega) O.o) (M.o.fr S.fr aw ae |>.u' (λx l=>p.o x (mS l))) ⟨_,_,_,ae,cN⟩) λr W⟨ho,a⟩=>?_;obtain⟨ng,nc,rfl⟩:=U4 ho;replace S:=S.iv a ho ae ae;clear a));replace S:St w (cu D) [] _ [⟨82,1,bX (s_ ng 0) 1 nc,1,KS [o]⟩] _ _:=S;refine eu S dC λW S=>?_;refine dh 0 _ ?_;refine dh 1 (bV A) ?_;refine dh 2 _ ?_;refine dh 3 (dE ng 0) ?_;refine gZ 4 (bU ct o) ae (gO (λw h=>by obtain⟨_,S⟩:=h;have B:=S.q0.cellAt (j:=0) (u:=bU ct o) cN ae;exact B) ae fZ) ?_;refine dh 5 (bU cq o) ?_;refine kI 6 λK hK=>?_;go_wp2_with fail;refine(V.o _ S.x).mono ?_;rintro e W ⟨r,q,rfl,ho,J,I,n,hf⟩;have N:=cz (And.intro ho.sl (And.intro (λh b a=>iE S.fr.size (ho.new h b a)) ho.lt));have X:=cz (And.intro (B6 J S.fr.size) I);replace S:=S.call hf ax eQ (dQ P D G _) (λ_ _=>n);clear n J I;refine gq hK ?_;refine dh 7 (r) ?_;refine dh 8 (q) ?_;refine dh 9 (bU cq (jZ s a).2.2.2) ?_;refine dh 10 _ ?_;refine dh 11 _ ?_;refine dh 12 _ ?_;refine qx ?_;go_wp2;go_ret3;exact⟨_,_,ae,⟨N.o.1,N.o.2.1,N.o.2.2⟩,X.o.1,X.o.2,S.x,S.fr⟩
attribute [local go_sem] Oper.semAt_some
def rJ(bs:cV)(k:Nat):cV:=(bs.drop (k*128)).take 128
def ib(dZ:cV)(a:Pl×(List cQ×Int))(part:cV):Pl×(List cQ×Int):=
 if a.2.2≠0 then a else
 if(eW a.1 (dZ.getD a.2.1.n 0:Nat) part).2.2≠0 then((eW a.1 (dZ.getD a.2.1.n 0:Nat) part).1,([],(eW a.1 (dZ.getD a.2.1.n 0:Nat) part).2.2))
 else((eW a.1 (dZ.getD a.2.1.n 0:Nat) part).1,(a.2.1++[(eW a.1 (dZ.getD a.2.1.n 0:Nat) part).2.1],0))
def gz(s:Pl)(bs dZ:cV):Pl×(List cQ×Int):=((finRange (fu bs.n 128)).map λk=>rJ bs k.val).foldl (ib dZ) (s,([],0))
theorem H'{dZ:cV}{s:Pl}{c:Int}(hc:c≠0)(q:cV):ib dZ (s,([],c)) q=(s,([],c)):=by grind[ib]
theorem c8.part{c:Nat}(h:c8 w e z (bX (cu ⟨b,o,cw⟩) n c) n xs)(f:i+y<=n):c8 w e z (bX (cu ⟨b,o+i*z,cw⟩) y y) y ((xs.drop (i*z)).take (y*z)):=by obtain⟨g,d,cap,a,j,k,l⟩:=h;simp only[ly] at a;obtain⟨rfl,-,rfl⟩:=a;have p:(i+y)*z<=n*z:=IW _ f;have m:(i+y)*z=i*z+y*z:=Nat.add_mul _ _ _;refine⟨by grind,_,y,ae,eN _,cN,λq=>?_⟩;grind
theorem aes{c:Nat}{bs:cV}(h:lN w 5 (bX (cu ⟨b,o,cw⟩) bs.n c) bs)(d:k<fu bs.n 128):lN w 5 (uq b o 1 bs.n 128 k) (rJ bs k):=by
 have f:=(sK (m:=bs.n) (n:=128) cN).1 d;have g:(rJ bs k).n=min 128 (bs.n-k*128):=by grind[rJ]
 refine⟨?_,λx j=>h.2 x (mS (lQ j))⟩;have a:=h.1.part (i:=k*128) (y:=min 128 (bs.n-k*128)) cN;unfold uq;rw[g];rw[sM,<-map_drop,<-map_take] at a;have e:rJ bs k=(bs.drop (k*128)).take (min 128 (bs.n-k*128)*1):=by simp_all[rJ]
 grind
theorem uu(s:Pl)(i:Int)(b:cV):(eW s i b).1.dv.ops<=s.dv.ops+1:=by unfold eW;split;grind;split;exact zY _ _ _;grind
theorem Ay(h:gy s.cR)(i:Int)(b:cV)(a:∀x∈b,x<256):dD (eW s i b).2.1:=by unfold eW;split;exact dV;next hl=>split;(next hi=>unfold ky;simp only;split;exact⟨by grind,h,DE _ (G6 cN a).2⟩;exact dV);exact dV
def O8{bs:cV}{p:List (Fin (fu bs.n 128))}(a:p<+:finRange (fu bs.n 128))(h:(p.map λk=>rJ bs k.val).foldl (ib dZ) (s,([],0))=(s1,([],c)))(hc:c≠0):gz s bs dZ=(s1,([],c)):=by obtain⟨r,b⟩:=a;unfold gz;rw[<-b,nL,BM,h,EN (H' hc)]
def aet:lD prog 68:=⟨⟨_,underlying68,ae⟩,dC⟩
def Qq:lD prog 27:=⟨⟨_,underlying27,ae⟩,dC⟩
instance in82e9c :ru 27:=⟨Qq⟩
def aeu:lD prog 81:=⟨⟨_,qt,ae⟩,dC⟩
structure aev where
 a:Option Addr
 c:Nat
 s:Pl
 oq:List cQ
structure agO where
 y:aev
 code:Int
theorem U5(P D I:Nat)(s:Pl)(d3:s.dv.ops<=999000000)(bs:cV)(d6:bs.n<=100000)(v:c7)(dZ:cV)(av:c7)(d4:fu bs.n 128<=dZ.n)(d5:dZ.n<=100000)(c1:∀x∈dZ,x<=1000000)(w:cS)(h:fc w P D I s)(R:lN w 5 v bs)(RA:c8 w 3 1 av dZ.n (qK dZ)):
 CallsIn Fence.wide 5 prog 279 #[bW (cu ⟨P,0,cw⟩),v,av] w λe w'=>∃r,e=cj (cg #[r,bU cq (gz s bs dZ).2.2])/\il w' w.h.s r (gz s bs dZ).2.1/\fO (gz s bs dZ).2.1/\fc w' P D I (gz s bs dZ).1/\Fr (cu D) [] w w':=by
 obtain⟨bo,O,rfl,a2,d7⟩:=dP R.1;obtain⟨aa,p,rfl,b9,b8⟩:=dP RA;have HR:=cz R;have b7:=cz RA;have S:=St.start w (cu D) [] (dQ P D I s) h;have hN:fu bs.n 128<=100000:=cN;clear R RA h;refine callsIn_of_wp_marks func279 ae iG ?_ ae;simp only[ntmps279,AG,lr,tX,reduceAdd,reduceSub,AH,vE,vF,vG,pN,uG]
 gi_upto_region 0 with fail
 refine j9 nz dC vw ?_
 go_wp2_with first|refine DJ S (v:=dE P 0) rfl rfl rfl λW3 S=>?_|refine DJ S (v:=bX aa dZ.n p) rfl rfl rfl λW5 S=>?_|refine A8 S zeroValue107 rfl rfl λW6 S=>?_|refine A8 S zeroValue27 rfl rfl λW7 S=>?_
 gi_upto_region 1 with fail
 refine j9 nz dC vw ?_
 go_wp2_with refine fg λW S=>?_
 gi_upto_region 2 with fail
 refine j9 nz dC vw ?_
 go_wp2_with (refine aj (XZ bo bs.n O _) λW2 hW=>?_;have HB:=cz (DZ hW);clear hW)
 gi_wp2
 replace S:St w (cu D) [] [⟨W7.h.s,107,1,λ_=>bX cw 0 0⟩,⟨W6.h.s,27,1,λ_=>bU cq 0⟩,⟨W5.h.s,107,1,λ_=>bX cw 0 0⟩,⟨W3.h.s,81,1,λ_=>bX aa dZ.n p⟩,⟨w.h.s,68,1,λ_=>dE P 0⟩] [] (C' P D I s) W:=S;obtain⟨hb,Q,a7,b4,b3,d8⟩:=HB.o;obtain⟨l,c6⟩:=dI W.h.s;rw[c6] at Q a7 b4 b3|-;have c5:∀k∈ [l,l+1],(W.h.s<=k∨k<w.h.s)/\∃t,iA W2 k=cu t/\lS t=cy/\gV t=cy:=by
  intro k E;simp only[iZ,jK,uH] at E;rcases E with rfl|rfl
  . exact⟨.inl cN,_,b4,ae,ae⟩
  . exact⟨.inl cN,_,b3,ae,ae⟩
 replace S:=(S.Jl 106 3 ae ae).UE hb c5;have c3:=S.x.2;have b5:w.h.s<=W2.h.s:=S.fr.size;have f:∀s',lO (cu D) (λB w=>C' P D I s' B w/\Tg [l,l+1] B w):=λs'=>(dQ P D I s').still (kG _);have F:∀s',lW (λB w=>C' P D I s' B w/\Tg [l,l+1] B w):=λs'=>(lW.pl P D I s').and (lW.av _);obtain⟨b0,o0,T⟩:∃b o,0<bs.n->bo=s_ b o:=by
  grind
 refine wpIn_rangeFunc_ownF ae cN (gf:=292) (lb:=#[dE l 0,dE (l+1) 0]) ae iG (enters_of func292 dC ae)
  (RZ 4 l (l+1) bs.n O bo b0 o0 T a2 cN W2 Q a7) np.trans (np.wV λk E=>let⟨_,h1,_⟩:=(c3 k E).2;iy h1) (gJ _ _) (λ_=>ae)
  (λj N=>∃y:aev,Hid ((j.map λk=>rJ bs k.val).foldl (ib dZ) (s,([],0))=(y.s,(y.oq,0))/\y.oq.n=j.n/\y.s.dv.ops<=s.dv.ops+j.n/\fO y.oq)/\St w (cu D) [] [⟨W7.h.s,107,1,λ_=>bX y.a y.oq.n y.c⟩,⟨W6.h.s,27,1,λ_=>bU cq 0⟩,⟨W5.h.s,107,1,λ_=>bX cw 0 0⟩,⟨W3.h.s,81,1,λ_=>bX aa dZ.n p⟩,⟨w.h.s,68,1,λ_=>dE P 0⟩] [⟨106,3,bX y.a y.oq.n y.c,y.oq.n,iS y.oq⟩] (λB w=>C' P D I y.s B w/\Tg [l,l+1] B w) N)
  (λc j N=>∃y:agO,Hid (c=.ret/\(j.map λk=>rJ bs k.val).foldl (ib dZ) (s,([],0))=(y.y.s,([],y.code))/\y.code≠0)/\St w (cu D) [] [⟨W7.h.s,107,1,λ_=>bX y.y.a y.y.oq.n y.y.c⟩,⟨W6.h.s,27,1,λ_=>bU cq y.code⟩,⟨W5.h.s,107,1,λ_=>bX cw 0 0⟩,⟨W3.h.s,81,1,λ_=>bX aa dZ.n p⟩,⟨w.h.s,68,1,λ_=>dE P 0⟩] [] (λB w=>C' P D I y.y.s B w/\Tg [l,l+1] B w) N)
  (rZ b5 _ _ _ _ λ_(y:aev)=>F y.s) (λc=>rZ b5 _ _ _ _ λ_(y:agO)=>F y.y.s)
  ⟨⟨cw,0,s,[]⟩,cz ⟨ae,ae,eN _,dS⟩,S⟩ ?a1 ?assign ?body ?done ?stop
 case assign=>
  intro lp z N K C
  gi_wp2
  exact C
 case body=>
  clear S;rintro lp j z W0 ⟨⟨ya,yc,s',a⟩,J,S⟩ U;simp only at J S;obtain⟨G,M,a8,L⟩:=J.o;replace S:=S.fI;obtain⟨ab,ao,rfl⟩:=b8 cN;have e1:=(sK (m:=bs.n) (n:=128) cN).1 z.isLt;obtain rfl:=T cN;obtain⟨u,Z⟩:∃u,dZ[a.n]?=cu u:=⟨_,jE cN⟩;have a6:dZ.getD a.n 0=u:=by grind
  have d1:=c1 u (kA Z);have a5:=cz λW(h:Fr (cu D) [] w W)=>(b7.o.fr h aw ae).cellAt (show 0<dZ.n by omega) (show(qK dZ)[a.n]?=cu (.int cq u) from by unfold qK;rw[rO,Z];rfl);obtain⟨pv,b2⟩:=dI (uq b0 o0 1 bs.n 128 z.val);have V:=cz λW(h:Fr (cu D) [] w W)=>(show lN W 5 pv (rJ bs z.val) from by rw[<-b2];exact aes (HR.o.fr h aw ae) z.isLt);have d:ib dZ (s',(a,0)) (rJ bs z.val)=if(eW s' (u:Nat) (rJ bs z.val)).2.2≠0 then((eW s' (u:Nat) (rJ bs z.val)).1,([],(eW s' (u:Nat) (rJ bs z.val)).2.2)) else((eW s' (u:Nat) (rJ bs z.val)).1,(a++[(eW s' (u:Nat) (rJ bs z.val)).2.1],0)):=by unfold ib;simp only[a6];simp
  have c4:∀x∈rJ bs z.val,x<256:=λx hx=>HR.o.2 x (mS (lQ hx));have b1:=Ay S.x.1.1.ok.1 (u:Nat) (rJ bs z.val) c4;have a9:=uu s' (u:Nat) (rJ bs z.val);have C1:=cz λW h hv=>Au P D I s' cN (u:Nat) aW 5 pv (rJ bs z.val) W h hv;rcases hg:eW s' (u:Nat) (rJ bs z.val) with⟨s1,q,c⟩;rw[hg] at C1 d b1 a9;simp only at C1 d b1 a9;obtain⟨A,hA⟩:=fP (cL 3 (dF q));rw[dk hA] at C1;have HA:=cz hA;have HF:=cz G;have Y:=cz L;have b6:=cz M;have d2:(a.n:Int)<(dZ.n:Int):=cN;have d9:a.n<100000:=cN;clear hg hA L Z a6 J M;rw[b2]
  gi_upto_region 4 with fail
  refine Aq nz S dC dC vw λW S=>?_;refine gZ 0 (dE P 0) ae (uj S 4 (λ_ h=>h) ae 0 ae rn ae aet) ?_;refine gZ 1 (bX (s_ ab ao) dZ.n p) ae (uj S 3 (λ_ h=>h) ae 0 ae rn ae aeu) ?_;refine dh 2 (bX ya a.n yc) ?_;refine dh 3 (bU cq a.n) ?_;refine dh 4 (dE ab (ao+a.n)) ?_;refine gZ 5 (bU cq u) ae (gO (λw h=>by obtain⟨_,S⟩:=h;exact a5.o _ S.fr) ae DG) ?_;refine dh 6 _ ?_
  repeat' first|refine Te ?_|refine nA 8 _ (hS:=⟨_,S.pop⟩) ?_|refine nA 9 (bV A) (hS:=⟨_,S.pop⟩) ?_|refine nA 10 (bU cq c) (hS:=⟨_,S.pop⟩) ?_|refine nA 13 _ (hS:=⟨_,S.pop⟩) ?_|refine nA 8 _ ?_|refine nA 9 (bV A) ?_|refine nA 10 (bU cq c) ?_|refine BE 7 11 (λK C=>?_) λK C=>?_|refine qg 7 λK C=>?_|refine qg 12 λK C=>?_|refine qg 11 λK C=>?_|(refine Ha S xC iO ae λW S=>?_;refine C.out _ _ ⟨_,S.pop⟩ λ_=>?_;try simp only[Oq])|(go_wp2_with fail;refine aj (C1.o _ S.x.1.1 (V.o _ S.fr)) λN⟨hp,G⟩=>?_;replace S:=S.call G ax eQ (lO.fI [l,l+1] W0 (f s1)) (λB h=>⟨⟨hp,(kG _).fr h.1.2 G⟩,Hl h.2 G⟩);refine C.out _ _ ⟨_,S.pop⟩ λ_=>?_;try simp only[Oq])|(refine kq S 0 ae ae ae HA.o fK (dJ _) λW S=>?_;refine C.out _ _ ⟨_,S.pop⟩ λ_=>?_;try simp only[Oq])|(go_wp2_with fail;refine aj (C1.o _ S.x.1.1 (V.o _ S.fr)) λN⟨hp,G⟩=>?_;replace S:=S.call G ax eQ (lO.fI [l,l+1] W0 (f s1)) (λB h=>⟨⟨hp,(kG _).fr h.1.2 G⟩,Hl h.2 G⟩);refine gq C ?_)
  all_goals(
  refine cz ?_;by_cases hc:c=0
  . subst hc;rw[cZ eQ] at d;have HN:=cz (show((j++[z]).map λk=>rJ bs k.val).foldl (ib dZ) (s,([],0))=(s1,(a++[q],0)) from by rw[nL,BM,HF.o];exact d);clear d
    gi_upto_region 7 with fail
    gi_upto_region 7 with fail
    refine j9 nz dC vw ?_
    go_wp2_with first|(first|refine jl 29 107 8 S 1 0 (bX ya a.n yc) ?_)|refine tA S 0 rfl 0 rfl rfl rfl rfl gX (dJ _) CK xZ λg9 c9 W S=>?_|refine vz S 2 rfl 0 rn rfl rfl rfl ox λW S=>?_|refine fL ?_|refine fg λW S=>?_
    gi_wp2
    have E:=S.kept (f s1);have S9:=E.2.2.pop.pop;refine⟨E.1,E.2.1,⟨cu ⟨g9,0,cw⟩,c9,s1,a++[q]⟩,cz ⟨HN.o,by rw[ji,ji,b6.o];rfl,by grind,λr hr=>(gH.1 hr).elim (Y.o r) (λh=>by grind)⟩,?_⟩;rw[ji,jk,qe];exact S9.xN (k:=0) ae (g:=λ_=>bX (s_ g9 0) (a.n+1) c9) λi hi=>by have hi:i<1:=hi;obtain rfl:i=0:=cN;rfl
  . have g1:(c !=0)=cx:=fJ.2 hc;rw[df hc] at d;have HN:=cz (show((j++[z]).map λk=>rJ bs k.val).foldl (ib dZ) (s,([],0))=(s1,([],c)) from by rw[nL,BM,HF.o];exact d);have HC:=cz hc;clear d hc
    gi_upto_region 6 with fail
    gi_upto_region 6 with fail
    refine j9 nz dC vw ?_
    go_wp2_with first|refine vz S 3 rfl 0 (v:=bX cw 0 0) rn rfl rfl rfl ox λW S=>?_|refine vz S 2 rfl 0 rn rfl rfl rfl Qq λW S=>?_
    gi_wp2
    have E:=S.kept (f s1);have S9:=E.2.2.pop.OJ;refine⟨E.1,⟨⟨ya,yc,s1,a⟩,c⟩,cz ⟨ae,HN.o,HC.o⟩,?_⟩;exact(S9.xN (k:=1) ae (g:=λ_=>bU cq c) λi hi=>by have hi:i<1:=hi;obtain rfl:i=0:=cN;rfl).xN (k:=2) ae (g:=λ_=>bX cw 0 0) λi hi=>by grind
  )
 case done=>
  clear S;rintro D2 ys W0 hD rfl ⟨⟨ya,yc,s',a⟩,J,S⟩ C;simp only at J S;obtain⟨G,M,a8,L⟩:=J.o;have X:gz s bs dZ=(s',(a,0)):=G;have H:=cz X;have Y:=cz L;clear M a8 L J X;replace S:=S.fI
  gi_upto_region 8 with fail
  gi_upto_region 8 with fail
  refine j9 nz dC vw ?_
  go_wp2_with first|refine jl 33 107 8 S 0 0 (bX ya a.n yc) ?_|refine vz S 2 rfl 0 rn rfl rfl rfl ox λW S=>?_|refine vz S 1 rfl 0 (v:=bU cq 0) rn rfl rfl rfl Qq λW S=>?_
  gi_wp2
  have E:=S.kept (f s');refine D0 E.2.2 (F s') cN (E.1.same D2 _ C ae) λN S=>?_;have a3:=S.cell (k:=2) ae (i:=0) zH;have a4:=S.cell (k:=1) ae (i:=0) zH;refine⟨cg #[bX ya a.n yc,bU cq 0],by simp[results,f279,go_sem,a3,a4],?_⟩;rw[H.o];exact⟨_,ae,S.o0,Y.o,S.x.1,S.fr⟩
 case stop=>
  clear S;rintro D2 cc j W0 hD U ⟨⟨⟨ya,yc,s1,a⟩,c2⟩,J,S⟩ C;simp only at J S;obtain⟨rfl,G,hc⟩:=J.o;have H:=cz (O8 U G hc);clear J
  gi_wp2
  refine D0 S (F s1) cN C λN S=>?_;have a3:=S.cell (k:=2) ae (i:=0) zH;have a4:=S.cell (k:=1) ae (i:=0) zH;refine⟨cg #[bX cw 0 0,bU cq c2],by simp[results,f279,go_sem,a3,a4],?_⟩;rw[H.o];exact⟨_,ae,il.nil _ _,dS,S.x.1,S.fr⟩
def Sb(P D b:Nat)(s:Pl)(a:s.dv.ops<=999000000)(bs:cV)(i:bs.n<=100000)(v:c7)(dZ:cV)(c:c7)(d:fu bs.n 128<=dZ.n)(f:dZ.n<=100000)(g:∀x∈dZ,x<=1000000)(w:cS)(h:fc w P D b s)(R:lN w 5 v bs)(j:c8 w 3 1 c dZ.n (qK dZ)):
 CP_ 279 #[bW (cu ⟨P,0,cw⟩),v,c] w λe w'=>∃r,e=cj (cg #[r,bU cq (gz s bs dZ).2.2])/\il w' w.h.s r (gz s bs dZ).2.1/\fO (gz s bs dZ).2.1/\fc w' P D b (gz s bs dZ).1/\Fr (cu D) [] w w':=
 ue.1 (U5 P D b s a bs i v dZ c d f g w h R j)
attribute [local go_sem] Oper.semAt_some
def oI(ps:List cQ)(k:Nat):List cQ:=(ps.drop (k*8)).take 8
def gQ(dZ:cV)(a:Pl×(List cQ×Int))(part:List cQ):Pl×(List cQ×Int):=
 if a.2.2≠0 then a else
 match mW (λi=>part.getD i cX) with
 |none=>(a.1,([],51))
 |some sec=>
  if(eW a.1 (dZ.getD a.2.1.n 0:Nat) sec).2.2≠0 then((eW a.1 (dZ.getD a.2.1.n 0:Nat) sec).1,([],(eW a.1 (dZ.getD a.2.1.n 0:Nat) sec).2.2))
  else((eW a.1 (dZ.getD a.2.1.n 0:Nat) sec).1,(a.2.1++[(eW a.1 (dZ.getD a.2.1.n 0:Nat) sec).2.1],0))
def eU(s:Pl)(ps:List cQ)(dZ:cV):Pl×(List cQ×Int):=((finRange (fu ps.n 8)).map λk=>oI ps k.val).foldl (gQ dZ) (s,([],0))
theorem O9(hc:c≠0)(q:List cQ):gQ dZ (s,([],c)) q=(s,([],c)):=by grind[gQ]
def MP{bs:List cQ}{p:List (Fin (fu bs.n 8))}(a:p<+:finRange (fu bs.n 8))(h:(p.map λk=>oI bs k.val).foldl (gQ dZ) (s,([],0))=(s1,([],c)))(hc:c≠0):eU s bs dZ=(s1,([],c)):=by obtain⟨r,b⟩:=a;unfold eU;rw[<-b,nL,BM,h,EN (O9 hc)]
theorem abH{bs:List cQ}(a:k<fu bs.n 8):0<(oI bs k).n/\(oI bs k).n<=8:=by grind[sK,oI]
theorem X8{bs:List cQ}(d:k<fu bs.n 8):∃a c,uq b o 3 bs.n 8 k=bX (cu ⟨a,c,cw⟩) (oI bs k).n (oI bs k).n:=by simp_all[oI,uq]
def U6{bs:List cQ}(h:fO bs)(k i:Nat):dD ((oI bs k).getD i cX):=by rw[zE];cases a:(oI bs k)[i]? with|none=>exact dV|some q=>exact h q (mS (lQ (kA a)))
theorem aew{c:Nat}{bs:List cQ}(h:lk w (bX (cu ⟨b,o,cw⟩) bs.n c) bs)(d:k<fu bs.n 8):lk w (uq b o 3 bs.n 8 k) (oI bs k):=by
 have e:=(sK (m:=bs.n) (n:=8) cN).1 d;have f:(oI bs k).n=min 8 (bs.n-k*8):=by grind[oI]
 have a:=c8.part (show c8 w 106 3 _ bs.n (iS bs) from h) (i:=k*8) (y:=min 8 (bs.n-k*8)) cN;unfold lk uq;rw[f];rw[EH,EF] at a;grind[oI]
def U7(b:Nat)(W:cS):(Instr.sliceAt 191 (bW (cu ⟨b,0,cw⟩)) cw cw cw).run prog W=.ok (bX (cu ⟨b,0,cw⟩) 8 8) W:=by rfl
theorem U8{l:List cQ}(d:l.n<=8):((cL 24 (eV λ_=>cX)).t.take 0++iS l++(cL 24 (eV λ_=>cX)).t.drop (0+(iS l).n)).toArray=cL 24 (eV λi=>l.getD i cX):=by apply yp;intro j;rw[dy];simp only[take_zero,pN,Lo,oQ];rw[Lr];by_cases h:j<(iS l).n;rw[df h];rw[yW] at h;have c:j/3<l.n:=cN;have b:=kE l c (A:=cL 3 (dF l[j/3])) ae (j%3) cN;rw[show j/3*3+j%3=j by omega,dy,df cN] at b;rw[b,df cN];grind[eV];rw[cZ h,getElem?_drop,Nat.add_sub_cancel' cN,mR (xs:=cL 24 _),dy];rw[yW] at h;by_cases a:j<24;rw[df a,df a];grind[eV];grind
theorem aiE{a:Act}(S:St w0 d l L O X w)(k:Nat){f g c:Nat}{o:Option Nat}(r:L[k]?=cu ⟨b,191,24,eV λ_=>cX⟩)(R:lk w (bX (cu ⟨f,g,cw⟩) ps.n c) ps)(s:0<ps.n)(B:ps.n<=8)(D:P.underlying 107=cu (.slice 106))(m:(P.info? 106).map (·.size)=cu 3)(A:a.eval (.tmp x)=bX (cu ⟨b,0,cw⟩) 8 8)(C:a.eval (.tmp y)=bX (cu ⟨f,g,cw⟩) ps.n c)(h:∀W,St w0 d l (L.set k ⟨b,191,24,eV λi=>ps.getD i cX⟩) O X W->wpList P ops Q rest (a.put o (goInt ps.n)) W):
 wpList P ops Q (⟨o,.call {callee:=.builtin .copy,args:=#[.tmp x,.tmp y],argTypes:=#[107,107]},t2,p,af,cw⟩::rest) a w:=by
 obtain⟨t,ao,F,q,I,J,v⟩:=R;obtain⟨E,o',G,H,rfl,M,hc⟩:=v s;simp only[ly,yz,Addr.mk.injEq] at q;obtain⟨⟨rfl,rfl,-⟩,-,rfl⟩:=q;have e:=Ff (P:=P) w 107 107 t2 106 b 0 8 8 ⟨f,g,cw⟩ ps.n c (cL 24 (eV λ_=>cX)) 191 (iS ps) 3 ps.n D m (S.oW r) jv t
  (λj u N=>by
   have n:(⟨f,g,cw⟩:Addr).add j=⟨f,g+j,cw⟩:=by grind[Addr.add]
   grind[cell_of_row]) aG (oO _)
 rw[U8 B] at e;refine mC ae λK z=>?_;unfold Oper.wp;simp only[execOp,resolve,invoke,builtin,lh,rR,nW,map_toArray,yq,map_nil,A,C,e];exact z _ _ (h _ (S.set r _))
theorem Sc(P D J:Nat)(s:Pl)(e8:s.dv.ops<=999000000)(bs:List cQ)(f2:bs.n<=100000)(e2:fO bs)(v:c7)(dZ:cV)(av:c7)(e9:fu bs.n 8<=dZ.n)(f1:dZ.n<=100000)(d9:∀x∈dZ,x<=1000000)(w:cS)(h:fc w P D J s)(R:lk w v bs)(RA:c8 w 3 1 av dZ.n (qK dZ)):
 CallsIn Fence.wide 5 prog 280 #[bW (cu ⟨P,0,cw⟩),v,av] w λe w'=>∃r,e=cj (cg #[r,bU cq (eU s bs dZ).2.2])/\il w' w.h.s r (eU s bs dZ).2.1/\fO (eU s bs dZ).2.1/\fc w' P D J (eU s bs dZ).1/\Fr (cu D) [] w w':=by
 obtain⟨bo,Y,rfl,a8,f3⟩:=dP R;obtain⟨aa,C,rfl,d8,d7⟩:=dP RA;have HR:=cz R;have d6:=cz RA;have S:=St.start w (cu D) [] (dQ P D J s) h;have hN:fu bs.n 8<=100000:=cN;clear R RA h;refine callsIn_of_wp_marks func280 rfl iG ?_ rfl;simp only[ntmps280,AG,lr,tX,reduceAdd,reduceSub,AH,vE,vF,vG,pN,uG]
 gi_upto_region 0 with fail
 refine j9 nz dC vw ?_
 go_wp2_with first|refine DJ S (v:=dE P 0) rfl rfl rfl λW3 S=>?_|refine DJ S (v:=bX aa dZ.n C) rfl rfl rfl λW5 S=>?_|refine A8 S zeroValue107 rfl rfl λW6 S=>?_|refine A8 S zeroValue27 rfl rfl λW7 S=>?_
 gi_upto_region 1 with fail
 refine j9 nz dC vw ?_
 go_wp2_with refine fg λW S=>?_
 gi_upto_region 2 with fail
 refine j9 nz dC vw ?_
 go_wp2_with (refine(X0 bo bs.n Y _).mono ?_;rintro e W2 ⟨rfl,hW⟩;have HB:=cz (DZ hW);clear hW)
 gi_wp2
 replace S:St w (cu D) [] [⟨W7.h.s,107,1,λ_=>bX cw 0 0⟩,⟨W6.h.s,27,1,λ_=>bU cq 0⟩,⟨W5.h.s,107,1,λ_=>bX cw 0 0⟩,⟨W3.h.s,81,1,λ_=>bX aa dZ.n C⟩,⟨w.h.s,68,1,λ_=>dE P 0⟩] [] (C' P D J s) W:=S;obtain⟨hb,Z,b9,c6,c5,f4⟩:=HB.o;obtain⟨u,e4⟩:=dI W.h.s;rw[e4] at Z b9 c6 c5|-;have e3:∀k∈ [u,u+1],(W.h.s<=k∨k<w.h.s)/\∃t,iA W2 k=cu t/\lS t=cy/\gV t=cy:=by
  intro k E;simp only[iZ,jK,uH] at E;rcases E with rfl|rfl
  . exact⟨.inl cN,_,c6,rfl,rfl⟩
  . exact⟨.inl cN,_,c5,rfl,rfl⟩
 replace S:=(S.Jl 106 3 rfl rfl).UE hb e3;have e1:=S.x.2;have d1:w.h.s<=W2.h.s:=S.fr.size;have f:∀s',lO (cu D) (λB w=>C' P D J s' B w/\Tg [u,u+1] B w):=λs'=>(dQ P D J s').still (kG _);have G:∀s',lW (λB w=>C' P D J s' B w/\Tg [u,u+1] B w):=λs'=>(lW.pl P D J s').and (lW.av _);obtain⟨b0,o0,a2⟩:∃b o,0<bs.n->bo=s_ b o:=by
  grind
 refine wpIn_rangeFunc_ownF rfl cN (gf:=293) (lb:=#[dE u 0,dE (u+1) 0]) rfl iG (enters_of func293 dC rfl)
  (R3 4 u (u+1) bs.n Y bo b0 o0 a2 a8 cN W2 Z b9) np.trans (np.wV λk E=>let⟨_,h1,_⟩:=(e1 k E).2;iy h1) (gJ _ _) (λ_=>rfl)
  (λl X=>∃y:aev,Hid ((l.map λk=>oI bs k.val).foldl (gQ dZ) (s,([],0))=(y.s,(y.oq,0))/\y.oq.n=l.n/\y.s.dv.ops<=s.dv.ops+l.n/\fO y.oq)/\St w (cu D) [] [⟨W7.h.s,107,1,λ_=>bX y.a y.oq.n y.c⟩,⟨W6.h.s,27,1,λ_=>bU cq 0⟩,⟨W5.h.s,107,1,λ_=>bX cw 0 0⟩,⟨W3.h.s,81,1,λ_=>bX aa dZ.n C⟩,⟨w.h.s,68,1,λ_=>dE P 0⟩] [⟨106,3,bX y.a y.oq.n y.c,y.oq.n,iS y.oq⟩] (λB w=>C' P D J y.s B w/\Tg [u,u+1] B w) X)
  (λc l X=>∃y:agO,Hid (c=.ret/\(l.map λk=>oI bs k.val).foldl (gQ dZ) (s,([],0))=(y.y.s,([],y.code))/\y.code≠0)/\St w (cu D) [] [⟨W7.h.s,107,1,λ_=>bX y.y.a y.y.oq.n y.y.c⟩,⟨W6.h.s,27,1,λ_=>bU cq y.code⟩,⟨W5.h.s,107,1,λ_=>bX cw 0 0⟩,⟨W3.h.s,81,1,λ_=>bX aa dZ.n C⟩,⟨w.h.s,68,1,λ_=>dE P 0⟩] [] (λB w=>C' P D J y.y.s B w/\Tg [u,u+1] B w) X)
  (rZ d1 _ _ _ _ λ_(y:aev)=>G y.s) (λc=>rZ d1 _ _ _ _ λ_(y:agO)=>G y.y.s)
  ⟨⟨cw,0,s,[]⟩,cz ⟨rfl,rfl,eN _,dS⟩,S⟩ ?a1 ?assign ?body ?done ?stop
 case assign=>
  intro lp z X K j
  gi_wp2
  exact j
 case body=>
  clear S;rintro lp l z W0 ⟨⟨ya,yc,s',d⟩,M,S⟩ a3;simp only at M S;obtain⟨H,U,c1,N⟩:=M.o;replace S:=S.fI;obtain⟨ab,ao,rfl⟩:=d7 cN;have f6:=(sK (m:=bs.n) (n:=8) cN).1 z.isLt;obtain rfl:=a2 cN;obtain⟨F,a7⟩:∃F,dZ[d.n]?=cu F:=⟨_,jE cN⟩;have b7:dZ.getD d.n 0=F:=by grind
  have e6:=d9 F (kA a7);have b2:=cz λW(h:Fr (cu D) [] w W)=>(d6.o.fr h (.inr rfl) rfl).cellAt (show 0<dZ.n by omega) (show(qK dZ)[d.n]?=cu (.int cq F) from by unfold qK;rw[rO,a7];rfl);obtain⟨pv,b5⟩:=dI (uq b0 o0 3 bs.n 8 z.val);have a4:=cz λW(h:Fr (cu D) [] w W)=>(show lk W pv (oI bs z.val) from by rw[<-b5];exact aew (HR.o.fr h (.inr rfl) rfl) z.isLt);have b3:=abH (bs:=bs) z.isLt;have p:∃pb po,pv=bX (s_ pb po) (oI bs z.val).n (oI bs z.val).n:=by rw[<-b5];exact X8 z.isLt
  have a:gQ dZ (s',(d,0)) (oI bs z.val)=match mW (λi=>(oI bs z.val).getD i cX) with|none=>(s',([],51))|some sec=>if(eW s' (F:Nat) sec).2.2≠0 then((eW s' (F:Nat) sec).1,([],(eW s' (F:Nat) sec).2.2)) else((eW s' (F:Nat) sec).1,(d++[(eW s' (F:Nat) sec).2.1],0)):=by unfold gQ;simp only[b7];simp
  have b8:∀i,i<8->dD ((oI bs z.val).getD i cX):=λi _=>U6 e2 z.val i;obtain⟨pp,Q⟩:=sO (oI bs z.val);rw[Q.o] at a b8 a4 b3 p;obtain⟨nl,T⟩:∃nl:Nat->cQ,nl=λi=>pp.getD i cX:=⟨_,rfl⟩;have V:=cz λW=>Fg nl (by rw[T];exact b8) W;rw[<-T] at a;have d2:=cz T;obtain⟨NV,d3⟩:=yB (cL 24 (eV nl));rw[show adx nl=bV NV by rw[d3.o];rfl] at V;have HF:=cz H;have a6:=cz N;have d4:=cz U;have e7:(d.n:Int)<(dZ.n:Int):=cN;have f5:d.n<100000:=cN;have d5:=cz p;clear N a7 b7 M U T p;rw[b5];obtain⟨pb,po,e5⟩:=d5.o;subst e5
  gi_upto_region 4 with fail
  gi_upto_region 4 with fail
  refine j9 nz dC vw ?_
  go_wp2_with refine fg λW S=>?_
  gi_upto_region 5 with fail
  refine j9 nz dC vw ?_
  go_wp2_with first|refine nH rfl 191 (.tmp 10) cw cw cw rfl _ (U7 _ _) ?_|(refine aiE S 0 rfl (a4.o _ S.fr) b3.1 b3.2 underlying107 kx rfl rfl λW S=>?_;rw[<-d2.o] at S)
  cases hn:mW nl with
  |none=>
   rw[hn] at a V;simp only at a;have L:gi 51 (cw:Option cV)=51:=rfl;rw[L] at V;have HN:=cz (show((l++[z]).map λk=>oI bs k.val).foldl (gQ dZ) (s,([],0))=(s',([],51)) from by rw[nL,BM,HF.o];show gQ dZ (s',(d,0)) (oI bs z.val)=_;rw[Q.o];exact a);clear a hn L
   gi_upto_region 6 with fail
   gi_upto_region 6 with fail
   refine j9 nz dC vw ?_
   go_wp2_with first|(refine(V.o _).mono ?_;rintro e W ⟨B,rfl,hB,hb⟩;have HB:=cz hB;replace S:=S.cP hb;clear hB)|refine oX S rfl rfl HB.o Cd rfl nz (jC _) λW S=>?_|refine fL ?_
   gi_upto_region 8 with fail
   gi_upto_region 8 with fail
   refine j9 nz dC vw ?_
   go_wp2_with first|refine vz S 3 rfl 0 rn rfl rfl rfl Qq λW S=>?_|refine fg λW S=>?_
   gi_wp2
   have E:=S.kept (f s');have S9:=E.2.2.pop.pop.OJ;refine⟨E.1,⟨⟨ya,yc,s',d⟩,51⟩,cz ⟨rfl,HN.o,show(51:Int)≠0 by decide⟩,?_⟩;exact(S9.xN (k:=1) rfl (g:=λ_=>bU cq 51) λi O=>by have O:i<1:=O;obtain rfl:i=0:=cN;rfl).xN (k:=2) rfl (g:=λ_=>bX cw 0 0) λi O=>by grind
  |some sec=>
   have b4:=Gj hn;rw[hn] at a V;simp only at a;have L:gi 51 (cu sec)=0:=rfl;rw[L] at V;simp only[lx] at V;have c4:=Ay S.x.1.1.ok.1 (F:Nat) sec b4.2;have c3:=uu s' (F:Nat) sec;have C1:=cz λW pv h hv=>Au P D J s' cN (F:Nat) (by unfold fh;omega) 36 pv sec W h hv;rcases hg:eW s' (F:Nat) sec with⟨s1,q,c⟩;rw[hg] at C1 a c4 c3;simp only at C1 a c4 c3;obtain⟨A,hA⟩:=fP (cL 3 (dF q));rw[dk hA] at C1;have HA:=cz hA;have b6:=cz b4;clear hg hA hn L b4
   gi_upto_region 6 with fail
   gi_upto_region 6 with fail
   refine j9 nz dC vw ?_
   go_wp2_with first|(refine(V.o _).mono ?_;rintro e WN ⟨B,rfl,hB,hb⟩;have HB:=cz hB;replace S:=S.cP hb;clear hB)|refine oX S rfl rfl HB.o Cd rfl nz (jC _) λW S=>?_|refine fL ?_
   gi_upto_region 9 with fail
   refine Aq nz S dC dC vw λW S=>?_;refine gZ 0 (dE P 0) rfl (uj S 6 (λ_ h=>h) rfl 0 rfl rn rfl aet) ?_;refine gZ 1 (bX (s_ ab ao) dZ.n C) rfl (uj S 5 (λ_ h=>h) rfl 0 rfl rn rfl aeu) ?_;refine dh 2 (bX ya d.n yc) ?_;refine dh 3 (bU cq d.n) ?_;refine dh 4 (dE ab (ao+d.n)) ?_;refine gZ 5 (bU cq F) rfl (gO (λw h=>by obtain⟨_,S⟩:=h;exact b2.o _ S.fr) rfl DG) ?_;refine dh 6 (bX (s_ WN.h.s 0) 128 128) ?_;refine Zi 7 11 (λK j=>?_) λK j=>?_
   rotate_left
   focus(
    refine Ha S xC iO rfl λW S=>?_;refine j.out _ _ ⟨_,S.pop⟩ λ_=>?_
    try simp only[Oq]
    clear j K;refine kI 7 λK j=>?_
    go_wp2_with fail
    refine(C1.o _ _ S.x.1.1 (lN.sec (S.row ⟨WN.h.s,36,128,dg sec⟩ (by simp only[mml,mmp])).1 b6.o)).mono ?_;rintro e X ⟨rfl,hp,H⟩;replace S:=S.call H (λD e=>e) eQ (lO.fI [u,u+1] W0 (f s1)) (λB h=>⟨⟨hp,(kG _).fr h.1.2 H⟩,Hl h.2 H⟩);refine j.out _ _ ⟨_,S.pop⟩ λ_=>?_;refine dh 8 _ (hS:=⟨_,S.pop⟩) ?_;refine dh 9 (bV A) (hS:=⟨_,S.pop⟩) ?_;refine dh 10 (bU cq c) (hS:=⟨_,S.pop⟩) ?_;refine kI 12 λK j=>?_;refine kq S 0 rfl rfl rfl HA.o fK (dJ _) λW S=>?_;refine j.out _ _ ⟨_,S.pop⟩ λ_=>?_
    try simp only[Oq]
    clear j K;refine dh 13 _ (hS:=⟨_,S.pop⟩) ?_;refine qx ?_
   )
   rotate_left
   focus(
    go_wp2_with fail
    refine(C1.o _ _ S.x.1.1 (lN.sec (S.row ⟨WN.h.s,36,128,dg sec⟩ (by simp only[mml,mmp])).1 b6.o)).mono ?_;rintro e X ⟨rfl,hp,H⟩;replace S:=S.call H (λD e=>e) eQ (lO.fI [u,u+1] W0 (f s1)) (λB h=>⟨⟨hp,(kG _).fr h.1.2 H⟩,Hl h.2 H⟩);refine gq j ?_;refine dh 8 _ ?_;refine dh 9 (bV A) ?_;refine dh 10 (bU cq c) ?_;refine kI 11 λK j=>?_;refine Ha S xC iO rfl λW S=>?_;refine j.out _ _ ⟨_,S.pop⟩ λ_=>?_
    try simp only[Oq]
    clear j K;refine kI 12 λK j=>?_;refine kq S 0 rfl rfl rfl HA.o fK (dJ _) λW S=>?_;refine j.out _ _ ⟨_,S.pop⟩ λ_=>?_
    try simp only[Oq]
    clear j K;refine dh 13 _ (hS:=⟨_,S.pop⟩) ?_;refine qx ?_
   )
   all_goals(
   by_cases hc:c=0
   . subst hc;rw[cZ eQ] at a;have HN:=cz (show((l++[z]).map λk=>oI bs k.val).foldl (gQ dZ) (s,([],0))=(s1,(d++[q],0)) from by rw[nL,BM,HF.o];show gQ dZ (s',(d,0)) (oI bs z.val)=_;rw[Q.o];exact a);clear a
     gi_upto_region 12 with fail
     gi_upto_region 12 with fail
     refine j9 nz dC vw ?_
     go_wp2_with first|refine tA S 0 rfl 0 rfl rfl rfl rfl gX (dJ _) CK xZ λg9 c9 W S=>?_|refine vz S 4 rfl 0 rn rfl rfl rfl ox λW S=>?_|refine fL ?_|refine fg λW S=>?_
     gi_wp2
     have E:=S.kept (f s1);have S9:=E.2.2.pop.pop.pop.pop;refine⟨E.1,E.2.1,⟨cu ⟨g9,0,cw⟩,c9,s1,d++[q]⟩,cz ⟨HN.o,by rw[ji,ji,d4.o];rfl,by grind,λr hr=>(gH.1 hr).elim (a6.o r) (λh=>by grind)⟩,?_⟩;rw[ji,jk,qe];exact S9.xN (k:=0) rfl (g:=λ_=>bX (s_ g9 0) (d.n+1) c9) λi O=>by have O:i<1:=O;obtain rfl:i=0:=cN;rfl
   . have g1:(c !=0)=cx:=fJ.2 hc;rw[df hc] at a;have HN:=cz (show((l++[z]).map λk=>oI bs k.val).foldl (gQ dZ) (s,([],0))=(s1,([],c)) from by rw[nL,BM,HF.o];show gQ dZ (s',(d,0)) (oI bs z.val)=_;rw[Q.o];exact a);have HC:=cz hc;clear a hc
     gi_upto_region 11 with fail
     gi_upto_region 11 with fail
     refine j9 nz dC vw ?_
     go_wp2_with first|refine vz S 4 rfl 0 rn rfl rfl rfl Qq λW S=>?_|refine fg λW S=>?_
     gi_wp2
     have E:=S.kept (f s1);have S9:=E.2.2.pop.pop.pop.OJ;refine⟨E.1,⟨⟨ya,yc,s1,d⟩,c⟩,cz ⟨rfl,HN.o,HC.o⟩,?_⟩;exact(S9.xN (k:=1) rfl (g:=λ_=>bU cq c) λi O=>by have O:i<1:=O;obtain rfl:i=0:=cN;rfl).xN (k:=2) rfl (g:=λ_=>bX cw 0 0) λi O=>by grind
   )
 case done=>
  clear S;rintro D2 ys W0 hD rfl ⟨⟨ya,yc,s',d⟩,M,S⟩ j;simp only at M S;obtain⟨H,U,c1,N⟩:=M.o;have a5:eU s bs dZ=(s',(d,0)):=H;have I:=cz a5;have a6:=cz N;clear U c1 N M a5;replace S:=S.fI
  gi_upto_region 13 with fail
  gi_upto_region 13 with fail
  refine j9 nz dC vw ?_
  go_wp2_with first|refine jl 46 107 8 S 0 0 (bX ya d.n yc) ?_|refine vz S 2 rfl 0 rn rfl rfl rfl ox λW S=>?_|refine vz S 1 rfl 0 (v:=bU cq 0) rn rfl rfl rfl Qq λW S=>?_
  gi_wp2
  have E:=S.kept (f s');refine D0 E.2.2 (G s') cN (E.1.same D2 _ j rfl) λX S=>?_;have a9:=S.cell (k:=2) rfl (i:=0) zH;have b1:=S.cell (k:=1) rfl (i:=0) zH;refine⟨cg #[bX ya d.n yc,bU cq 0],by simp[results,f280,go_sem,a9,b1],?_⟩;rw[I.o];exact⟨_,rfl,S.o0,a6.o,S.x.1,S.fr⟩
 case stop=>
  clear S;rintro D2 cc l W0 hD a3 ⟨⟨⟨ya,yc,s1,d⟩,c2⟩,M,S⟩ j;simp only at M S;obtain⟨rfl,H,hc⟩:=M.o;have I:=cz (MP a3 H hc);clear M
  gi_wp2
  refine D0 S (G s1) cN j λX S=>?_;have a9:=S.cell (k:=2) rfl (i:=0) zH;have b1:=S.cell (k:=1) rfl (i:=0) zH;refine⟨cg #[bX cw 0 0,bU cq c2],by simp[results,f280,go_sem,a9,b1],?_⟩;rw[I.o];exact⟨_,rfl,il.nil _ _,dS,S.x.1,S.fr⟩
def O'(P D b:Nat)(s:Pl)(a:s.dv.ops<=999000000)(bs:List cQ)(i:bs.n<=100000)(j:fO bs)(v:c7)(dZ:cV)(c:c7)(d:fu bs.n 8<=dZ.n)(f:dZ.n<=100000)(g:∀x∈dZ,x<=1000000)(w:cS)(h:fc w P D b s)(R:lk w v bs)(k:c8 w 3 1 c dZ.n (qK dZ)):
 CP_ 280 #[bW (cu ⟨P,0,cw⟩),v,c] w λe w'=>∃r,e=cj (cg #[r,bU cq (eU s bs dZ).2.2])/\il w' w.h.s r (eU s bs dZ).2.1/\fO (eU s bs dZ).2.1/\fc w' P D b (eU s bs dZ).1/\Fr (cu D) [] w w':=
 ue.1 (Sc P D b s a bs i j v dZ c d f g w h R k)
theorem U9(dZ:cV)(a:Pl×(List cQ×Int))(b:cV):(ib dZ a b).1.dv.ops<=a.1.dv.ops+1:=by unfold ib;split;omega;grind[uu]
theorem Sd(dZ:cV)(a:Pl×(List cQ×Int))(b:List cQ):(gQ dZ a b).1.dv.ops<=a.1.dv.ops+1:=by unfold gQ;split;omega;split;grind;grind[uu]
theorem Bo{α β:Type}{f:Pl×β->α->Pl×β}(h:∀a x,(f a x).1.dv.ops<=a.1.dv.ops+1):∀(l:List α)(a:Pl×β),(l.foldl f a).1.dv.ops<=a.1.dv.ops+l.n
 | [],a=>eN _
 |x::l,a=>by
  rw[zG,lr];have:=Bo h l (f a x);have:=h a x;omega
theorem Ia(s:Pl)(bs dZ:cV):(gz s bs dZ).1.dv.ops<=s.dv.ops+fu bs.n 128:=by grind[gz,Bo,U9]
theorem Fu(s:Pl)(ps:List cQ)(dZ:cV):(eU s ps dZ).1.dv.ops<=s.dv.ops+fu ps.n 8:=by grind[eU,Bo,Sd]
theorem Va{b:cV}(h:(ib dZ a b).2.2=0):a.2.2=0/\(ib dZ a b).2.1.n=a.2.1.n+1:=by unfold ib at h|-;grind
theorem Se{b:List cQ}(h:(gQ dZ a b).2.2=0):a.2.2=0/\(gQ dZ a b).2.1.n=a.2.1.n+1:=by unfold gQ at h|-;grind
def MQ{α:Type}{f:Pl×(List cQ×Int)->α->Pl×(List cQ×Int)}(h:∀a x,(f a x).2.2=0->a.2.2=0/\(f a x).2.1.n=a.2.1.n+1):∀(l:List α)(a:Pl×(List cQ×Int)),(l.foldl f a).2.2=0->a.2.2=0/\(l.foldl f a).2.1.n=a.2.1.n+l.n
 | [],a,h0=>⟨h0,ae⟩
 |x::l,a,h0=>by
  rw[zG] at h0|-;obtain⟨b,c⟩:=MQ h l (f a x) h0;obtain⟨d,e⟩:=h a x b;exact⟨d,by rw[c,e,lr];omega⟩
theorem Ib{bs:cV}(h:(gz s bs dZ).2.2=0):(gz s bs dZ).2.1.n=fu bs.n 128:=by unfold gz at h|-;have:=(MQ (λa x=>Va) _ _ h).2;grind
theorem Fv(h:(eU s ps dZ).2.2=0):(eU s ps dZ).2.1.n=fu ps.n 8:=by unfold eU at h|-;have:=(MQ (λa x=>Se) _ _ h).2;grind
def MR{α:Type}{f:Pl×(List cQ×Int)->α->Pl×(List cQ×Int)}(h:∀a x,(f a x).2.2≠0->a.2.2≠0/\f a x=a∨(f a x).2.1=[]):∀(l:List α)(a:Pl×(List cQ×Int)),(a.2.2≠0->a.2.1=[])->(l.foldl f a).2.2≠0->(l.foldl f a).2.1=[]
 | [],a,ha,h0=>ha h0
 |x::l,a,ha,h0=>by
  rw[zG] at h0|-;exact MR h l (f a x) (λhc=>(h a x hc).elim (λ⟨h1,h2⟩=>by rw[h2];exact ha h1) id) h0
theorem Ic(s:Pl)(bs dZ:cV)(h:(gz s bs dZ).2.2≠0):(gz s bs dZ).2.1=[]:=by unfold gz at h|-;refine MR (λa x hc=>?_) _ _ (λ_=>ae) h;unfold ib at hc|-;grind
theorem Fw(s:Pl)(ps:List cQ)(dZ:cV)(h:(eU s ps dZ).2.2≠0):(eU s ps dZ).2.1=[]:=by unfold eU at h|-;refine MR (λa x hc=>?_) _ _ (λ_=>ae) h;unfold gQ at hc|-;grind
theorem tE(f s:Nat):s<=(jW f s).sum:=by cases f<;>grind[jW]
def Sf:Gr prog 81 1:=⟨dC,λW=>by rfl⟩
def aj5:c7->Nat
 |bX _ n _=>n
 |_=>0
structure Sg(f:Nat)(a:Pl×(List cQ×Int))(left:Nat):Prop where
 ops:a.1.dv.ops+1000*f<=998030000
 ok:a.2.2=0->∃g,g<f/\left+a.2.1.n=(jW g a.2.1.n).sum/\1<=a.2.1.n/\a.2.1.n<=512/\a.2.1.n<=8^g
 err:a.2.2≠0->a.2.1=[]
def iX:Nat->Pl×(List cQ×Int)->cV->Pl×(List cQ×Int)
 |0,a,_=>a
 |f+1,a,dZ=>if a.2.2=0/\1<a.2.1.n then iX f (eU a.1 a.2.1 dZ) (dZ.drop (eU a.1 a.2.1 dZ).2.1.n) else a
def fH(s:Pl)(bs dZ:cV):Pl×(cQ×Int):=
 if jS (bs.n:Nat)=0∨dZ.n≠jS (bs.n:Nat) then(s,(cX,121)) else
 let r:=iX 20 (gz s bs dZ) (dZ.drop (gz s bs dZ).2.1.n)
 if r.2.2≠0 then(r.1,(cX,r.2.2)) else(r.1,(r.2.1.headD cX,0))
theorem Sh(s:Pl)(ps:List cQ)(dZ:cV):(eU s ps dZ).2.1.n<=fu ps.n 8:=by by_cases h:(eU s ps dZ).2.2=0;simp_all[Fv];simp_all[Fw]
def Ie:∀(f:Nat)(a:Pl×(List cQ×Int))(dZ:cV),(iX f a dZ).1.dv.ops<=a.1.dv.ops+2*a.2.1.n
 |0,a,_=>yu _ _
 |f+1,a,dZ=>by
  unfold iX;split
  . next h=>
    have b:=Ie f (eU a.1 a.2.1 dZ) (dZ.drop (eU a.1 a.2.1 dZ).2.1.n);have c:=Fu a.1 a.2.1 dZ;have d:=Sh a.1 a.2.1 dZ;have e:fu a.2.1.n 8=(a.2.1.n+7)/8:=rfl;omega
  . omega
theorem x9(s:Pl)(bs dZ:cV):(fH s bs dZ).1.dv.ops<=s.dv.ops+2000:=by unfold fH;split;grind;next h=>(have g:bs.n<=65535:=by have a:jS (bs.n:Nat)≠0:=λe=>h (.inl e);unfold jS kM at a;grind);(have b:=Ia s bs dZ;have c:=Ie 20 (gz s bs dZ) (dZ.drop (gz s bs dZ).2.1.n);have d:(gz s bs dZ).2.1.n<=fu bs.n 128:=by by_cases h:(gz s bs dZ).2.2=0;simp_all[Ib];simp_all[Ic]);have f:fu bs.n 128=(bs.n+127)/128:=rfl;grind
theorem Ig(P D M0:Nat)(s:Pl)(e4:s.dv.ops<=998000000)(bs:cV)(d5:bs.n<=100000)(v:c7)(dZ:cV)(av:c7)(d3:dZ.n<=100000)(b8:∀x∈dZ,x<=1000000)(w:cS)(h:fc w P D M0 s)(R:lN w 5 v bs)(RA:c8 w 3 1 av dZ.n (qK dZ)):
 CP_ 257 #[bW (cu ⟨P,0,cw⟩),v,av] w λe w'=>∃A,e=cj (cg #[bV A,bU cq (fH s bs dZ).2.2])/\A=cL 3 (dF (fH s bs dZ).2.1)/\dD (fH s bs dZ).2.1/\fc w' P D M0 (fH s bs dZ).1/\Fr (cu D) [] w w':=by
 obtain⟨bo,b7,rfl,d4,-⟩:=dP R.1;obtain⟨aa,K,rfl,d2,-⟩:=dP RA;have HR:=cz R;have b6:=cz RA;have S:=St.start w (cu D) [] (dQ P D M0 s) h;obtain⟨nd,J⟩:=sO (jS (bs.n:Nat));have C1:=cz λW=>Hu (bs.n:Nat) W;rw[J.o] at C1;clear R RA h;go_enter func257,ntmps257;by_cases G:nd=0∨dZ.n≠nd
 . have C:fH s bs dZ=(s,(cX,121)):=by unfold fH;rw[J.o,df G]
   have a7:=cz C;clear C;rcases vK nd with h0|h0;have g0:((nd:Int)==0)=cx:=by rw[xL];omega
   rotate_left
   have g0:((nd:Int)==0)=cy:=by rw[lR];omega
   have g1:(((dZ.n:Nat):Int)!=((nd:Nat):Int))=cx:=by rw[fJ];omega
   all_goals
    clear G
    go_wp2_with first|refine je S (C1.o _) λW S=>?_|(refine mA ?_;rw[a7.o];exact⟨_,ae,iO,dV,S.x,S.fr⟩)|refine fL ?_|refine fg λW S=>?_
 . have g0:((nd:Int)==0)=cy:=by rw[lR];omega
   have g1:(((dZ.n:Nat):Int)!=((nd:Nat):Int))=cy:=by rw[vI];omega
   have e6:1<=bs.n/\bs.n<=65535:=by
    have L:jS (bs.n:Nat)≠0:=by rw[J.o];omega
    unfold jS kM at L
    grind
   obtain⟨s0,e1⟩:=dI ((bs.n+127)/128);have a5:dZ.n=(jW 10 s0).sum:=by
    have L:=J.o;unfold jS kM at L
    grind
   have b1:fu bs.n 128=s0:=by rw[<-e1];rfl
   have a1:s0<=dZ.n:=by rw[a5];exact tE 10 s0
   have C:fH s bs dZ=(let r:=iX 20 (gz s bs dZ) (dZ.drop (gz s bs dZ).2.1.n);if r.2.2≠0 then(r.1,(cX,r.2.2)) else(r.1,(r.2.1.headD cX,0))):=by
    unfold fH;rw[J.o,cZ G]
   have C2:=cz λW h hr ha=>Sb P D M0 s cN bs d5 (bX bo bs.n b7) dZ (bX aa dZ.n K) (by rw[b1];exact a1) d3 b8 W h hr ha;have n:=Ia s bs dZ;have m:=Ib (s:=s) (bs:=bs) (dZ:=dZ);have l:=Ic s bs dZ;rw[b1] at n m;rcases hg:gz s bs dZ with⟨s1,t,c1⟩;rw[hg] at C2 n m l C;simp only at C2 n m l C;obtain⟨R0,b5⟩:=sO (iX 20 (s1,(t,c1)) (dZ.drop t.n));rw[b5.o] at C;have a7:=cz C;have a3:t.n<=dZ.n:=by
    grind
   have b3:=cz (show Sg 20 (s1,(t,c1)) (dZ.n-t.n) from by
    refine⟨by simp only;omega,λhc=>?_,λhc=>l hc⟩
    grind)
   clear C a5 m l n b1 a1 G hg
   go_wp2_with first|refine je S (C1.o _) λW S=>?_|(refine ah (C2.o _ S.x (HR.o.fr S.fr aw ae) (b6.o.fr S.fr aw ae)) λr W⟨ho,U,hp,hf⟩=>?_;have HF:=cz (dx ho);have c6:=cz U;have S1:=S.uh hf ax eQ (dQ P D M0 s1) (λB h=>hp) ho ae ae;clear S U;have S:=S1.UI (c8.jR (S1.uS (k:=0) ae)) (λ_=>ae) ae ae;clear S1;obtain⟨ma,mc,rfl⟩:=HF.o)|refine zi Sf ae ae a3 ?_|refine fg λW S=>?_
   have c9:Hid (c8 w 3 1 (bX (lz aa K t.n 1) (dZ.n-t.n) (K-t.n)) (dZ.n-t.n) (qK (dZ.drop t.n))):=cz (by
    have L:=c8.CU b6.o a3;rw[sM] at L;unfold qK at L|-
    simp_all)
   go_loopw [9,10,2] (λu e v wr=>∃f a p la lc H F I,u=bX la a.2.1.n lc/\e=bU cq a.2.2/\v=bX H I F/\Hid (iX f a p=R0/\Sg f a I/\p.n=I/\I<=100000/\(∀x∈p,x<=1000000)/\c8 w 3 1 (bX H I F) I (qK p)/\fO a.2.1/\
    St w (cu D) [] [⟨w.h.s,106,3,dF cX⟩] [] (λB w=>C' P D M0 a.1 B w/\yX 106 3 (bX la a.2.1.n lc) a.2.1.n (iS a.2.1) B w) wr)) (λu _ _ _=>aj5 u)
   case atStart=>exact⟨20,(s1,(t,c1)),dZ.drop t.n,_,_,_,_,_,ae,ae,ae,cz ⟨b5.o,b3.o,tY,cN,λx hx=>b8 x (mS hx),c9.o,c6.o,S⟩⟩
   case round=>
    clear S;obtain⟨f,a,p,la,lc,H,F,I,rfl,rfl,rfl,hS⟩:=hrel;obtain⟨s2,E,c⟩:=a;simp only at hS|-;by_cases X:c=0/\1<E.n
    . obtain⟨rfl,O⟩:=X;have N:=hS.o.2.1;have Q:=hS.o.2.2.1;obtain⟨g,d6,V,Y,a8,a9⟩:=N.ok ae;simp only at V Y a8 a9;obtain⟨f,rfl⟩:∃f',f=f'+1:=⟨f-1,cN⟩;obtain⟨g,rfl⟩:∃g',g=g'+1:=⟨g-1,by grind⟩;have a2:jW (g+1) E.n=E.n::jW g ((E.n+7)/8):=by conv=>lhs;unfold jW;rw[df O]
      rw[a2,sum_cons] at V;have hh:=tE g ((E.n+7)/8);have b2:fu E.n 8=(E.n+7)/8:=rfl;have T:=N.ops;simp only at T;have C3:=cz λW h hr(ha:c8 W 3 1 (bX H I F) I (qK p))=>O' P D M0 s2 cN E cN hS.o.2.2.2.2.2.2.1 (bX la E.n lc) p (bX H I F) (by rw[b2,Q];omega) (by rw[Q];exact hS.o.2.2.2.1) hS.o.2.2.2.2.1 W h hr (by rw[Q];exact ha);have n:=Fu s2 E p;have m:=Fv (s:=s2) (ps:=E) (dZ:=p);have l:=Fw s2 E p;rw[b2] at n m;have d:=hS.o.1;unfold iX at d;rw[df ⟨ae,O⟩] at d;rcases hg:eU s2 E p with⟨s3,y,c3⟩;simp only at d;rw[hg] at C3 n m l d;simp only at C3 n m l d;have a4:y.n<=I:=by
       grind
      have d1:(8:Nat)^(g+1)=8*8^g:=by rw[Nat.pow_succ,Nat.mul_comm]
      have a6:=cz (show Sg f (s3,(y,c3)) (I-y.n) from by
       refine⟨by grind,λhc=>?_,λhc=>l hc⟩
       grind)
      have d8:y.n<E.n:=by
       grind
      have z:=cz d;have c2:=cz hS.o.2.2.2.2.1;have c4:=cz hS.o.2.2.2.1;have c5:=cz Q;have Z:=cz hS.o.2.2.2.2.2.1;have S:=hS.o.2.2.2.2.2.2.2;have e5:(1:Int)<(E.n:Int):=cN;clear Q N hS V a2 hh b2 T n m l d hg d1
      go_wp2_with first|(refine ah (C3.o _ S.x.1 S.x.2.1 (Z.o.fr S.fr aw ae)) λr W⟨ho,U,hp,hf⟩=>?_;have HF:=cz (dx ho);have b4:=cz U;have S1:=S.uh hf ax eQ (dQ P D M0 s3) (λB h=>hp) ho ae ae;clear S U;have S:=S1.UI (c8.jR (S1.uS (k:=0) ae)) (λ_=>ae) ae ae;clear S1;obtain⟨e2,e3,rfl⟩:=HF.o)|refine zi Sf ae ae a4 ?_
      go_roundw
      case rel=>
       refine⟨f,(s3,(y,c3)),p.drop y.n,e2,e3,lz H F y.n 1,F-y.n,I-y.n,ae,ae,ae,cz ⟨z.o,a6.o,by rw[tY,c5.o],by have:=c4.o;omega,λx hx=>c2.o x (mS hx),?_,b4.o,S⟩⟩;have L:=c8.CU Z.o a4;rw[sM] at L;unfold qK at L|-;rw[<-map_drop] at L;exact L
      case measure=>exact d8
    . have M:R0=(s2,(E,c)):=by
       rw[<-hS.o.1];cases f with
       |zero=>rfl
       |succ f=>unfold iX;rw[cZ X]
      have d:=a7.o;rw[M] at d;by_cases hc:c=0
      . subst hc;obtain⟨g,d6,V,Y,a8,a9⟩:=hS.o.2.1.ok ae;simp only at Y;have O:E.n=1:=by
         omega
        obtain⟨q,rfl⟩:=List.length_eq_one_iff.1 O;rw[cZ eQ] at d;simp only[headD_cons] at d;have d9:=hS.o.2.2.2.2.2.2.1 q (nC ..);have S:=hS.o.2.2.2.2.2.2.2;obtain⟨A,hA⟩:=fP (cL 3 (dF q));have HA:=cz hA;have b9:=cz (kE [q] (i:=0) eQ (A:=A) hA);obtain⟨lb,lo,d7⟩:∃b o,la=s_ b o:=by
         obtain⟨_,_,he,_,h2⟩:=dP S.x.2.1
         grind
        subst d7;have z:=cz d;clear hS d M hA X V Y a8 a9 O
        go_wp2_with first|refine AD S.x.2.1 (j:=0) eQ (vu HA) b9.o ?_|(refine mA ?_;rw[z.o];exact⟨_,ae,ae,d9,S.x.1,S.fr⟩)|refine fg λW S=>?_
      . have g2:(c==0)=cy:=by grind
        have g3:(c !=0)=cx:=fJ.2 hc;rw[df hc] at d;have z:=cz d;have S:=hS.o.2.2.2.2.2.2.2;have HC:=cz hc;clear hS d M X hc
        go_wp2_with first|(refine mA ?_;rw[z.o];exact⟨_,ae,iO,dV,S.x.1,S.fr⟩)|refine fL ?_|refine fg λW S=>?_
end
def knX(bs:cV)(a:cS):cV->cS->Prop:=λB w=>(∀k∈bs,k∉B/\k<w.h.s)/\∀k∈bs,w.h[k]?=a.h[k]?
def lO.kn(bs:cV)(i:cS)(h:lO none X):lO none (λB w=>X B w/\knX bs i B w):=
 ⟨λa c=>⟨h.cP a.1 c,λk b=>⟨(a.2.1 k b).1,pM (a.2.1 k b).2 c.size⟩,λk b=>(c.block k (a.2.1 k b).2).trans (a.2.2 k b)⟩,
  λa c=>⟨h.add a.1 c,λk b=>⟨λd=>by
   rcases iZ.1 d with e|d
   . have:=(a.2.1 k b).2;omega
   . exact(a.2.1 k b).1 d,(a.2.1 k b).2⟩,a.2.2⟩,
  λa d=>⟨h.mono a.1 d,λk b=>⟨λf=>(a.2.1 k b).1 (d k f),(a.2.1 k b).2⟩,a.2.2⟩,
  λa g c m j l=>⟨h.but a.1 g c m j l,λk b=>⟨(a.2.1 k b).1,pM (a.2.1 k b).2 c.size⟩,λk b=>(c.block k (a.2.1 k b).2 (λe=>(a.2.1 k b).1 (e▸g))).trans (a.2.2 k b)⟩,
  λ_ e=>by cases e⟩
def St.kn(S:St w0 cw l [] [] X w)(bs:cV)(a:∀k∈bs,k<w.h.s):St w0 cw l [] [] (λB w'=>X B w'/\knX bs w B w') w:=
 ⟨S.fr,S.row,S.own,S.lo,S.nd,⟨S.x,λk b=>⟨by simp[eS],a k b⟩,λ_ _=>ae⟩,lO.kn bs w S.mh⟩
def D1:c7->cV
 |bX (cu a) (_+1) _=> [a.block]
 |_=> []
def MT{a:Addr}{c:Nat}(h:0<n):D1 (bX (cu a) n c)=[a.block]:=by obtain⟨n,rfl⟩:∃m,n=m+1:=⟨n-1,cN⟩;rfl
def eT.kn{k:IntKind}{l:List Int}(h:eT k w v l)(a:knX (D1 v) w B w'):eT k w' v l:=by obtain⟨ao,cap,rfl,e,f,g⟩:=h;refine⟨ao,cap,ae,e,f,λc=>?_⟩;obtain⟨b,o,rfl,m,hc⟩:=g c;rw[MT (BH.2 c)] at a;have d:b∈ [b]:=fM.2 ae;exact⟨b,o,ae,(a.1 b d).2,λj i=>(yD (a.2 b d)).trans (hc j i)⟩
theorem aex{c:Nat}(h:0<n->∃b o,ao=cu ⟨b,o,cw⟩/\b<w.h.s):∀i∈D1 (bX ao n c),i<w.h.s:=by intro i a;rcases vK n with rfl|hn;cases ao<;>cases a;obtain⟨b,o,rfl,d⟩:=h hn;rw[MT hn] at a;grind
def eT.blk{k:IntKind}{l:List Int}(h:eT k w v l):∀i∈D1 v,i<w.h.s:=by
 obtain⟨ao,cap,rfl,d,e,a⟩:=h;exact aex λc=>let⟨b,o,h5,h6,_⟩:=a (BH.1 c);⟨b,o,h5,h6⟩
def tP.blk{l:List kQ}(h:tP w v l):∀i∈D1 v,i<w.h.s:=by
 obtain⟨ao,cap,rfl,d,e,a⟩:=h;exact aex λc=>let⟨b,o,h5,h6,_⟩:=a (BH.1 c);⟨b,o,h5,h6⟩
def tP.kn{l:List kQ}(h:tP w v l)(a:knX (D1 v) w B w'):tP w' v l:=by obtain⟨ao,cap,rfl,f,g,i⟩:=h;refine⟨ao,cap,ae,f,g,λe=>?_⟩;obtain⟨b,o,rfl,k,hc⟩:=i e;rw[MT (BH.2 e)] at a;have c:b∈ [b]:=fM.2 ae;exact⟨b,o,ae,(a.1 b c).2,λj d=>⟨(yD (a.2 b c)).trans (hc j d).1,(yD (a.2 b c)).trans (hc j d).2.1,(yD (a.2 b c)).trans (hc j d).2.2⟩⟩
section
variable {a:Act}
theorem aiF(S:St w0 d l L O X w){q r:Operand}(o:P.underlying ty=cu (.slice 5))(j:(P.info? 5).map (λi=>(i.zero,i.s,i.bytes))=cu (cu (.int .u8 0),1,1))(k:a.eval q=bU cq n)(m:a.eval r=bU cq n)(u:n<=1000000)(h:∀W,St w0 d l (⟨w.h.s,5,n,dg []⟩::L) O X W->wpList P ops Q rest (a.put (cu dst) (bX (cu ⟨w.h.s,0,cw⟩) n n)) W):
 wpList P ops Q (⟨cu dst,.makeSlice ty q r,t2,p,af,cw⟩::rest) a w:=by
 obtain⟨t,c,e,f,s⟩:=oG j;have b:=run_make w ty 5 t (bU .u8 0) o c e cq cq (n:Nat) (n:Nat) cN cN jv cN;simp only[tZ,f,sM] at b;refine mC ae λK g=>?_;unfold Oper.wp execOp;simp only[lh,k,m,b,nW];have hc:madeCells (Value.int .u8 0).cells n=cL n (dg []):=by apply yp;simp_all[dy,madeCells,Array.getElem?_range,Value.cells,dg,mod_one]
 rw[hc];exact g _ _ (h _ (S.alloc 5 ae ae))
theorem aey(S:St w0 d l L O X w)(k:Nat){s bs:cV}{i A:dU}{o':Nat}{o:Option Nat}(q:L[k]?=cu ⟨b,5,n,dg s⟩)(z:s.n=o')(R:eT .u8 w v (dN bs))(U:o'+bs.n<=n)(J:bs.n<=m)(r:P.underlying i=cu (.slice 5))(g:(P.info? 5).map (·.size)=cu 1)(C:a.eval (.tmp x)=bX (cu ⟨b,o',cw⟩) m cap)(t:a.eval (.tmp y)=v)(h:∀W,St w0 d l (L.set k ⟨b,5,n,dg (s++bs)⟩) O X W->wpList P ops Q rest (a.put o (goInt bs.n)) W):
 wpList P ops Q (⟨o,.call {callee:=.builtin .copy,args:=#[.tmp x,.tmp y],argTypes:=#[i,A]},t2,p,af,cw⟩::rest) a w:=by
 subst z;obtain⟨ao,c,rfl,f,M,H⟩:=R;rw[dA] at f t;by_cases B:bs.n=0;obtain rfl:bs=[]:=yr B;refine wpList_copy_nothing ae (.tmp x) (.tmp y) i A ae 5 r g _ ao m cap _ c C t (Nat.zero_min _) (h _ ?_);have:=S.modify q (dg (s++[])) (jX.refl _ _) (by rw[wR];exact S.oW q);exact this
 . obtain⟨F,K,rfl,N,hc⟩:=H (λe=>B (by have:=gD length e;grind[dA]));have D:Nat.min bs.n m=bs.n:=vH J;refine wpList_copy_own ae (.tmp x) (.tmp y) i A ae 5 r g b s.n m cap ⟨F,K,cw⟩ _ c C t (cL n (dg s)) 5 (S.oW q) (bs.map λ(x:Nat)=>Value.int .u8 (x:Int)) jv
    (λj u T=>?_) aG (λu r=>by obtain⟨_,_,rfl⟩:=gI.1 r;rfl) ?_
   grind[Addr.add,dN];(rw[mQ];have E:((cL n (dg s)).t.take s.n++(bs.map λ(x:Nat)=>Value.int .u8 (x:Int))++(cL n (dg s)).t.drop (s.n+(bs.map λ(x:Nat)=>Value.int .u8 (x:Int)).n)).toArray=cL n (dg (s++bs)):=by(have I:(cL n (dg s)).t.n=n:=by grind[cW]);apply yp;intro j;rw[dy,Lo,wP,Lr,Lr,lP,I,mQ,vH cN];by_cases G:j<s.n;simp_all[dy,dg,IX];rw[cZ G];by_cases f:j-s.n<bs.n;rw[df f,df cN,rO,jE f];grind[dg];rw[cZ f,getElem?_drop,show s.n+bs.n+(j-s.n-bs.n)=j by omega,mR (xs:=cL n _),dy];grind[dg]);rw[mQ,wP] at E;rw[E];exact h _ (S.set q _)
end
theorem X9{s:cV}(h:s.n<=n):(cL n (dg s)).t=ej (s++replicate (n-s.n) 0):=by apply xK;intro j;rw[mR,dy];unfold ej dg;grind
theorem Vb(h:cM w b e n f)(a:base<=b)(c:n<=maxLen):w.ownsRow base e 1 (bX (cu ⟨b,0,cw⟩) n n) n (cL n f).t:=by refine⟨by simp_all[cW],.inr ⟨b,n,cL n f,ae,a,h,eN _,c,by simp_all[cW],?_⟩⟩;simp_all[nU,cW]
theorem MU(h:¬(bs.n%5=0/\bs.n<=20480)):AT bs=cw:=by unfold AT;grind
theorem Qr(a:k<bs.n/5)(h:okB bs k=cy):AT bs=cw:=by unfold AT;grind
theorem abI(b:bs.n%5=0)(c:bs.n<=20480)(a:∀j,j<bs.n/5->okB bs j=cx):AT bs=cu ((range (bs.n/5)).map (AS bs)):=by simp_all[AT]
theorem aez(bs:List Int)(k:Nat):(range (k+1)).map (AS bs)=(range k).map (AS bs)++[AS bs k]:=by grind[range_succ]
theorem agP(i:∀x∈bs,(Lit.int .u8 x).wf=cx)(hc:∀j(h:j<bs.n),w.cell? ⟨b,o+j,cw⟩=cu (.int .u8 bs[j]))(F:5*k+5<=bs.n):
 ∃a c d e f:Nat,(a<256/\c<256/\d<256/\e<256/\f<256)/\
  (w.cell? ⟨b,o+5*k,cw⟩=cu (.int .u8 a)/\w.cell? ⟨b,o+5*k+1,cw⟩=cu (.int .u8 c)/\w.cell? ⟨b,o+5*k+2,cw⟩=cu (.int .u8 d)/\w.cell? ⟨b,o+5*k+3,cw⟩=cu (.int .u8 e)/\w.cell? ⟨b,o+5*k+4,cw⟩=cu (.int .u8 f))/\
  AS bs k=((a:Int)==1,(c:Int)+256*(d:Int),(e:Int)+256*(f:Int))/\okB bs k=(decide (a<=1)&&ku ((c:Int)+256*(d:Int)) ((e:Int)+256*(f:Int))):=by
 have g:∀j,j<5->∃x:Nat,x<256/\w.cell? ⟨b,o+5*k+j,cw⟩=cu (.int .u8 x)/\bs.getD (5*k+j) 0=(x:Int):=by intro j E;have C:=hc (5*k+j) cN;have D:=bounds_u8 (i _ (mP (show 5*k+j<bs.n by omega)));refine⟨(bs[5*k+j]'cN).m,cN,?_,?_⟩;grind;grind
 obtain⟨a,t,l,r⟩:=g 0 cN;obtain⟨c,u,m,z⟩:=g 1 cN;obtain⟨d,l2,n,d2⟩:=g 2 cN;obtain⟨e,v,p,A⟩:=g 3 cN;obtain⟨f,y,q,B⟩:=g 4 cN;rw[xJ] at l r;have s:AS bs k=((a:Int)==1,(c:Int)+256*(d:Int),(e:Int)+256*(f:Int)):=by grind[AS]
 refine⟨a,c,d,e,f,⟨t,u,l2,v,y⟩,⟨l,m,n,p,q⟩,s,?_⟩;unfold okB Wh;grind
def lenOf:c7->Nat
 |bX _ n _=>n
 |_=>0
def abJ(b o n c:Nat)(d:5<=n)(hc:n<=c):∃a,(5<n->a=cu ⟨b,o+5,cw⟩)/\∀W,(Instr.slice 22 (bX (cu ⟨b,o,cw⟩) n c) (cu (.int cq 5)) cw cw).run prog W=.ok (bX a (n-5) (c-5)) W:=by refine⟨if c=5 then cu ⟨b,o,cw⟩ else(cu ⟨b,o,cw⟩:Option Addr).map (·.add (5*1)),λh=>by rw[cZ cN];rfl,λW=>?_⟩;rw[run_slice_l W 22 _ n c ac4 cq 5 cN cN,ajD];rfl
theorem abK(b o n c:Nat)(a:5<=n)(hc:n<=c)(W:cS):(Instr.slice 22 (bX (cu ⟨b,o,cw⟩) n c) cw (cu (.int cq 5)) cw).run prog W=.ok (bX (cu ⟨b,o,cw⟩) 5 c) W:=by rw[run_slice_h W 22 _ n c ac4 cq 5 cN cN,ajD];simp_all[sliced,Addr.add]
def Ya{c d e f g:c7}(h:w.cell? ⟨b,o,cw⟩=cu c/\w.cell? ⟨b,o+1,cw⟩=cu d/\w.cell? ⟨b,o+2,cw⟩=cu e/\w.cell? ⟨b,o+3,cw⟩=cu f/\w.cell? ⟨b,o+4,cw⟩=cu g)(a:b<w.h.s)(hbel:dR w w'):
 w'.cell? ⟨b,o,cw⟩=cu c/\w'.cell? ⟨b,o+1,cw⟩=cu d/\w'.cell? ⟨b,o+2,cw⟩=cu e/\w'.cell? ⟨b,o+3,cw⟩=cu f/\w'.cell? ⟨b,o+4,cw⟩=cu g:=
 ⟨(hbel.cell (p:=⟨b,_,cw⟩) a).trans h.1,(hbel.cell (p:=⟨b,_,cw⟩) a).trans h.2.1,(hbel.cell (p:=⟨b,_,cw⟩) a).trans h.2.2.1,(hbel.cell (p:=⟨b,_,cw⟩) a).trans h.2.2.2.1,(hbel.cell (p:=⟨b,_,cw⟩) a).trans h.2.2.2.2⟩
def Jv(w:cS)(bs:List Int)(k:Nat)(a:Option Addr):Prop:=
 5*k<bs.n->∃b o,a=cu ⟨b,o+5*k,cw⟩/\b<w.h.s/\∀j(h:j<bs.n),w.cell? ⟨b,o+j,cw⟩=cu (.int .u8 bs[j])
theorem Vc(a:bs≠ []->∃b o,ao=cu ⟨b,o,cw⟩/\b<w.h.s/\∀j(h:j<bs.n),w.cell? ⟨b,o+j,cw⟩=cu (.int .u8 bs[j])):Jv w bs 0 ao:=by grind[Jv]
theorem Vd(d:n+5*k=bs.n)(c:b<w.h.s)(hc:∀j(h:j<bs.n),w.cell? ⟨b,o+j,cw⟩=cu (.int .u8 bs[j]))(a:5<n->a'=cu ⟨b,o+5*k+5,cw⟩):Jv w bs (k+1) a':=by grind[Jv]
section
attribute[local irreducible]wpList Code.wp Calls Oper.wp wpAnyH
theorem aeA(u:c7)(bs:List Int)(w:cS)(hu:eT .u8 w u bs)(D:yI u):
 CP_ 203 #[u] w λe w'=>∃r,e=cj (cg #[r,bU cq (PM (AT bs))])/\tP w' r ((AT bs).getD [])/\dR w w':=by
 obtain⟨i0,hi,d5,Y,d6⟩:=oG PF;obtain⟨ao,cap,rfl,f2,d2,F⟩:=hu;have D:bs.n<=cap:=by obtain⟨a,n,c,h,hn⟩:=D;grind
 have HU:=cz F;clear F;have e3:=cz d2;clear d2;obtain⟨S,hS⟩:=fP (AT bs);rw[<-hS];have b3:=gJ w.h.s w;by_cases T:bs.n%5=0
 case neg=>
  have HN:Hid (S=cw):=by unfold Hid;rw[hS,MU (λh=>T h.1)]
  have hq:((bs.n:Int)%5 !=0)=cx:=by rw[fJ];omega
  clear T;go_enter func203,ntmps203;go_wp2;refine iH (v:=cg #[bX cw 0 0,bU cq 81]) (by simp[results,results203,go_sem]) ae ⟨_,by rw[HN.o];rfl,by rw[HN.o];exact tQ _,b3⟩
 case pos=>
 have hq:((bs.n:Int)%5 !=0)=cy:=by grind
 by_cases G:¬bs.n<=20480
 . (have HN:Hid (S=cw):=by unfold Hid;rw[hS,MU (λh=>G h.2)]);have hl:(20480:Int)<(bs.n:Int):=cN;clear T;go_enter func203,ntmps203;go_wp2;refine iH (v:=cg #[bX cw 0 0,bU cq 81]) (by simp[results,results203,go_sem]) ae ⟨_,by rw[HN.o];rfl,by rw[HN.o];exact tQ _,b3⟩
 have e9:bs.n<=20480:=cN;have hl:¬(20480:Int)<(bs.n:Int):=cN;clear G;obtain⟨K,hK⟩:=fP (bs.n/5);have HK:=cz hK;have b6:5*K=bs.n:=cN;have a1:=cz b6;clear b6;have e5:(bs.n:Int)/5=(K:Int):=cN;have f7:K<=4096:=cN;clear hK;have HM:=cz T;clear T;go_enter func203,ntmps203;go_wp2_with (refine LH (o:=⟨cu 20,_,_,_,_,_⟩) _ ae _ _ 294 ae w.h.s 334 i0 (bV #[bZ cy,bU cq 0,bU cq 0]) 3 underlying294 hi d5 Y cq cq _ K ae ae amh (by rw[d6];omega) aN (eN _) ?_;intro w2 J f);have b4:dR w w2:=(gJ _ _).grown f (eN _) (λk e=>by cases e);clear f e5
 go_loopw [0,4] (λvb v wr=>∃(k n c:Nat)(a:Option Addr),k<=K/\vb=bX a n c/\n+5*k=bs.n/\n<=c/\Jv w bs k a/\wr.ownsRow w.h.s 334 3 v ((range k).map (AS bs)).n (kR ((range k).map (AS bs)))/\Hid (∀j,j<k->okB bs j=cx)/\dR w wr)
  (λvb _ _=>lenOf vb)
 exact⟨0,bs.n,cap,ao,gw _,ae,ae,D,Vc HU.o,J,λj h=>absurd h (wQ _),b4⟩;clear J b4;obtain⟨k,n,c,a,hk,rfl,hn,c6,c4,l,a2,hbel⟩:=hrel;have d9:=cz c4;clear c4;have g5:=hbel.size;by_cases g2:0<n
 . (have c3:k<K:=by have:=a1.o;omega);(have c5:5<=n:=by have:=a1.o;omega);(obtain⟨b,o,rfl,a4,d⟩:=d9.o cN;obtain⟨Z,x1,x2,x3,x4,⟨l0,l1,l2,l3,l4⟩,c1,hd,U⟩:=agP e3.o d (k:=k) cN;obtain⟨a',b8,q⟩:=abJ b (o+5*k) n c c5 c6;have a8:Hid (Jv w bs (k+1) a'):=Vd hn a4 d b8;have HN:=cz hn;clear hn;clear b8 d;have z:=cz q;clear q;have d7:=cz c1;clear c1;have HD:=cz hd;clear hd;have b2:=cz U;clear U;have g6:=abK b (o+5*k) n c c5 c6;have f9:(0:Int)<=5:=by decide);have g1:(5:Int)<=(c:Int):=cN;have c2:5<=c:=cN;have hX:Z<256/\x1<256/\x2<256/\x3<256/\x4<256:=⟨l0,l1,l2,l3,l4⟩;have HX:=cz hX;clear hX;go_wp2_with fail
   go_region_held3 (λ_=>True) (trivial)
    (first|(go_at_call 245;refine(LG _).mono ?_;rintro e w5 ⟨b5,rfl,d1,-,t⟩)|(go_at_call 29;refine(af5 _ _ _ _ Z x1 x2 x3 x4 HX.o c2 _ d1 ?_ ?_).mono ?_;(exact Ya d7.o a4 (Below.step hbel.drew hbel.drew.s t));(exact pM a4 (Below.step hbel.drew hbel.drew.s t).s);rintro e N ⟨g,f4,rfl,⟨e0,e1,e2⟩,hg,f8,b9⟩))
   have A:dR w N:=Below.step (Below.step hbel.drew hbel.drew.s t) (Below.step hbel.drew hbel.drew.s t).s b9;have V:N.ownsRow w.h.s 334 3 u4 _ _:=me (me l.drew t) b9;clear t d1 l hbel;by_cases g9:1<Z
   . (have y:Hid (S=cw):=by unfold Hid;rw[hS];exact Qr (by rw[<-HK.o];exact c3) (by rw[b2.o,jG cN];rfl));have d3:(1:Int)<(Z:Int):=cN;clear z;go_wp2;refine iH (v:=cg #[bX cw 0 0,bU cq 81]) (by simp[results,results203,go_sem]) ae ⟨_,by rw[y.o];rfl,by rw[y.o];exact tQ _,A⟩
   (have d3:¬(1:Int)<(Z:Int):=cN;have d4:decide (Z<=1)=cx:=gM cN;have f6:=cz d4;clear d4;obtain⟨tb,f1⟩:=dI (((Z:Int)==1));obtain⟨s,hs⟩:=dI ((x1:Int)+256*(x2:Int));obtain⟨m,T⟩:=dI ((x3:Int)+256*(x4:Int));have g4:0<=s/\s<65536:=cN;have g3:0<=m/\m<65536:=cN;have d8:Hid (AS bs k=(tb,s,m)):=by simp_all);(have a9:Hid (okB bs k=ku s m):=by simp_all);rw[hs] at e1;rw[T] at e2;clear hs T;have c8:=World.new_ne N ⟨g,0,cw⟩ e0;have g8:IntKind.i64.wrap s=s:=kS _ cN;have g7:IntKind.i64.wrap m=m:=kS _ cN;go_wp2_with fail;go_region_held3 (λW=>W.cell? ⟨g,0,cw⟩=cu (.int ct (Z:Int))/\W.cell? ⟨g,1,cw⟩=cu (.int ct s)/\W.cell? ⟨g,2,cw⟩=cu (.int ct m)) (go_keep) (fail);(obtain⟨Q,B⟩:=fP ((N.alloc (.cells #[bZ tb,bU cq s,bU cq m] 334)).drew);have p0:Q.cell? ⟨N.h.s,0,cw⟩=cu (.bool tb):=by simp_all);(have p1:Q.cell? ⟨N.h.s,1,cw⟩=cu (.int cq s):=by simp_all);(have p2:Q.cell? ⟨N.h.s,2,cw⟩=cu (.int cq m):=by simp_all);(have c9:Q.h.s=N.h.s+1:=by rw[B];simp);(have a3:dR w Q:=by rw[B];exact(A.alloc A.s _).drew);have I:=(V.alloc (.cells #[bZ tb,bU cq s,bU cq m] 334)).drew;rw[<-B] at I;rw[<-B];have f3:=A.s;clear B A V e0 e1 e2 c8;obtain⟨E,hE⟩:=fP N.h.s;rw[<-hE] at p0 p1 p2 c9 f3|-;clear hE;obtain⟨cc,F⟩:=dI (ku s m);have HC:=cz F;clear F;go_wp2_with fail;refine(F5 tb s m aW _).mono ?_;rw[HC.o];rintro e w7 ⟨rfl,C⟩;have M:=Below.step a3 a3.s C;have H:=me I C;have q0:=(C.cell (p:=⟨E,0,cw⟩) (by show E<Q.h.s;omega)).trans p0;have q1:=(C.cell (p:=⟨E,1,cw⟩) (by show E<Q.h.s;omega)).trans p1;have q2:=(C.cell (p:=⟨E,2,cw⟩) (by show E<Q.h.s;omega)).trans p2;clear p0 p1 p2 a3 I c9 f1;cases cc with|false=>(have y:Hid (S=cw):=by unfold Hid;rw[hS];exact Qr (by rw[<-HK.o];exact c3) (by rw[a9.o,HC.o]));clear z;go_wp2;refine iH (v:=cg #[bX cw 0 0,bU cq 81]) (by simp[results,results203,go_sem]) ae ⟨_,by rw[y.o];rfl,by rw[y.o];exact tQ _,M⟩|true=>(have b1:Hid (∀j,j<k+1->okB bs j=cx):=by intro j hj;by_cases e8:j=k;subst e8;rw[a9.o];exact HC.o;exact a2.o j cN);(have HT:Hid ((range (k+1)).map (AS bs)=(range k).map (AS bs)++[(tb,s,m)]):=by unfold Hid;rw[aez,d8.o]);(obtain⟨L,hL⟩:=fP ((range k).map (AS bs));rw[<-hL] at H HT;have b7:L.n=k:=by rw[hL];simp);(clear hL;have e6:L.n+1<=maxLen:=by unfold maxLen;omega);have e7:(L.n+1)*24<=140737488355328:=cN;have f5:=cz b7;clear b7;have a6:=M.s;have q:=z.o;go_wp2_with (first|(at_builtin;refine yE _ ae (.tmp 58) (.tmp 60) 294 ae w.h.s 334 i0 (bV #[bZ cy,bU cq 0,bU cq 0]) 3 24 underlying294 hi d5 Y d6 ae bA _ _ _ ae (H.alloc _) ⟨w7.h.s,0,cw⟩ 1 1 [bZ tb,bU cq s,bU cq m] ae ae (Dq ae) (BS _ _ _) e6 e7 (iE a6 eQ) ?_;intro v8 w8 a5 i _));have e4:=(M.alloc a6 _).grown i (M.alloc a6 _).s (λj h=>(H.lt j h).1);clear i q;go_roundw;refine⟨k+1,n-5,c-5,a',cN,ae,by have:=HN.o;omega,cN,a8.out,?_,b1.o,e4⟩;rw[HT.o,ji,vQ];exact a5;simp[lenOf];omega
 . (obtain rfl:n=0:=cN;obtain rfl:k=K:=by have:=a1.o;omega);(have O:Hid (S=cu ((range k).map (AS bs))):=by unfold Hid;rw[hS,HK.o];exact abI HM.o e9 (λj hj=>a2.o j (by rw[HK.o];exact hj)));(have X:∀x∈(range k).map (AS bs),fh x.2.1/\fh x.2.2:=by intro x hx;obtain⟨j,hj,rfl⟩:=gI.1 hx;have h1:=a2.o j (yo.1 hj);unfold okB Wh at h1;rw[wN] at h1;have h2:=(gg _ _).1 h1.2;unfold fh;omega);have R:=Dp l X aF;have a7:=cz R;clear R l X;go_wp2;refine iH (v:=cg #[u4,bU cq 0]) (by simp[results,results203,go_sem]) ae ⟨_,by rw[O.o];rfl,by rw[O.o];exact a7.o,hbel⟩
end
def ry(l:List Int):cV:=l.map Int.m
theorem abL{x:kQ}(h:Wh x=cx):∀y∈tp x,0<=y/\y<256:=by have b:=(gg _ _).1 h;intro y a;unfold tp at a;grind
theorem D3{ms:List kQ}{log:List Int}(h:pB ms=cu log):∀y∈log,0<=y/\y<256:=by
 unfold pB at h;split at h;next hc=>cases h;intro y c;obtain⟨x,b,a⟩:=Dh.1 c;exact abL (rz.1 hc.2 x b) y a
 cases h
theorem MV(h:pB ms=cu log):log.n=5*ms.n/\ms.n<=4096:=by grind[pB,yL]
theorem aeB(h:∀y∈log,0<=y/\y<256):dN (ry log)=log:=by
 unfold dN ry;rw[wO];conv=>rhs;rw[<-map_id log]
 grind[map_congr_left]
def Jw(l:List (Int×Int)):Int:=(l.headD (0,0)).1
def Qs(l:List (Int×Int)):Int:=(l.getLastD (0,0)).1+(l.getLastD (0,0)).2
def jA(eZ:Int)(l:List (Int×Int)):Option cV:=
 if fX eZ=0∨gT l=cy then cw else
 if 0<l.n/\(Jw l<4∨eZ<Qs l) then cw else
 match pB (pO [] l) with
 |none=>cw
 |some log=>if fX eZ<2+log.n then cw else
  cu (qQ 2 (pO [] l).n++ry log++replicate (fX eZ-(2+log.n)) 0)
def ZB:kg prog 141 2:=⟨⟨_,underlying141,ae⟩,dC⟩
instance in05bb3 :sE 141 2:=⟨ZB⟩
def MX(p:Int×Int):Nat->c7:=λi=>if i=0 then bU cq p.1 else bU cq p.2
def abM(p:Int×Int):∀i,(MX p i).oneCell'=cx:=λi=>by unfold MX;split<;>rfl
instance in8301f(x:Int×Int):OF (MX x):=⟨abM x⟩
def agQ:(#[Value.int cq 0,bU cq 0]:gE)=cL 2 (MX (0,0)):=rfl
instance in50e52 :ZR 141 2 (MX (0,0)):=⟨_,zeroValue141,agQ⟩
section
variable {a:Act}
def Si(j:A.s=m)(hc:∀i v,A[i]?=cu v->w.cell? ⟨b,o+i,cw⟩=cu v)(g:a.eval (.tmp x)=bW (cu ⟨b,o,cw⟩))(e:kg P ty m)(h:wpList P ops Q rest (a.put (cu dst) (bV A)) w):wpList P ops Q (⟨cu dst,.load ty (.tmp x),t2,p,af,cw⟩::rest) a w:=by obtain⟨⟨c,f,d⟩,k⟩:=e;have:=wpList_load_mid (op:=⟨cu dst,.load ty (.tmp x),t2,p,af,cw⟩) (ops:=ops) (rest:=rest) (Q:=Q) ae ty (.tmp x) ae b o g A.t c (λi v l=>hc i v jv) f d jv;rw[vx] at this;exact this h
end
theorem Ih(t:Int):fX t=0∨100<=fX t:=by grind[fX]
theorem aeC(h:cM w b 5 n (dg ([]++qQ 2 m++ls)))(c:base<=b)(_:0<n)(g:n<=2567)(d:ls.n=k)(f:2+k<=n):mN w base (bX (cu ⟨b,0,cw⟩) n n) ((cu (qQ 2 m++ls++replicate (n-(2+k)) 0)).getD []):=by
 have a:=Vb h c bJ;rw[X9 (by grind[gh]),pN,ji,gh,d] at a;unfold mN;have e:(qQ 2 m++ls++replicate (n-(2+k)) 0).n=n:=by grind[gh]
 rw[lx,e];exact a
theorem ala(h:m<=4096):vR [2] [m]=cu (qQ 2 m):=by unfold vR;rw[df ⟨by decide,ae,by grind[fitAll]⟩];rfl
section
attribute[local irreducible]wpList Code.wp Calls Oper.wp wpAnyH
theorem Fx(eZ:Int)(d3:fh eZ)(v:c7)(l:List (Int×Int))(w:cS)(R:fm w v l):
 CP_ 205 #[bU cq eZ,v] w λe w'=>∃r,e=cj (cg #[r,bU cq (gi 81 (jA eZ l))])/\mN w' w.h.s r ((jA eZ l).getD [])/\dR w w':=by
 have HR:=cz R;obtain⟨rb,G⟩:=dI (gT l);have Y:=cz λW(c:dR w W)=>uL rb v l G W (R.cP c);obtain⟨T,Q⟩:=dI (jA eZ l);rw[Q];obtain⟨n,F⟩:=dI (fX eZ);have b1:=DW eZ;rw[F] at b1;have S:=qR w;obtain⟨ao,cap,rfl,d1,a3,a6⟩:=R;have d4:=cz a3;have b2:=cz a6;clear a3 a6;go_enter func205,ntmps205;by_cases h0:n=0
 . (obtain rfl:cw=T:=by rw[<-Q];unfold jA;rw[df (.inl (F.trans h0))]);subst h0;clear Q;go_wp2_with (refine(lH eZ _).mono ?_;rintro e Z ⟨rfl,rfl⟩;rw[F]);go_ret2;exact aJ
 have g0:((n:Int)==0)=cy:=by rw[lR];omega
 cases rb with
 |false=>
  obtain rfl:cw=T:=by rw[<-Q];unfold jA;rw[df (.inr G)]
  clear Q;go_wp2_with (first|(refine(lH eZ _).mono ?_;rintro e Z ⟨rfl,rfl⟩;rw[F])|refine je S (Y.o _ S.b) λW S=>?_);go_ret2;exact aJ
 |true=>
  obtain⟨x,a⟩:=dI (decide (0<l.n/\(Jw l<4∨eZ<Qs l)));have J:T=if x=cx then cw else(pB (pO [] l)).bind λlog=>if n<2+log.n then cw else cu (qQ 2 (pO [] l).n++ry log++replicate (n-(2+log.n)) 0):=by rw[<-Q];unfold jA;rw[F,cZ (by rw[G];simp;exact h0)];subst a;by_cases h9:0<l.n/\(Jw l<4∨eZ<Qs l);rw[df h9,df (gM h9)];grind
  have d:=cz J;clear Q J;rcases vK l.n with hl0|hl0;have c1:x=cy:=by rw[<-a];exact jG λh=>by omega
  subst c1;clear a;have g1:¬(0:Int)<(l.n:Int):=cN;clear hl0;go_upto_region 8 with(first|(refine(lH eZ _).mono ?_;rintro e Z ⟨rfl,rfl⟩;rw[F])|refine je S (Y.o _ S.b) λW S=>?_);rotate_left;obtain⟨b,o,rfl,a4,c2⟩:=b2.o (BH.1 hl0);have L:=cz c2;have g1:(0:Int)<(l.n:Int):=cN;obtain⟨k,hk⟩:∃k,l.n=k+1:=⟨l.n-1,cN⟩;have C:k<l.n:=cN;obtain⟨p,hp⟩:=dI (l[k]);obtain⟨q,hq⟩:=dI (l[0]);have a7:Jw l=q.1:=by unfold Jw;rw[headD_eq_head?_getD,head?_eq_getElem?,jE hl0,hq];rfl
  have a8:Qs l=p.1+p.2:=by unfold Qs;rw[getLastD_eq_getLast?,getLast?_eq_getElem?,show l.n-1=k by omega,jE C,hp];rfl
  have c5:=(gg _ _).1 (GM G C);rw[hp] at c5;have N:Hid (∀W,dR w W->W.cell? ⟨b,o,cw⟩=cu (.int cq q.1)):=cz λW c=>(c.cell (p:=⟨b,o,cw⟩) a4).trans (by have:=(L.o 0 hl0).1;rw[hq] at this;simpa using this);have O:Hid (∀W,dR w W->∀i v,(cL 2 (MX p))[i]?=cu v->W.cell? ⟨b,o+k*2+i,cw⟩=cu v):=cz λW c i v U=>by rw[dy] at U;split at U;(next I=>refine(c.cell (p:=⟨b,o+k*2+i,cw⟩) a4).trans ?_;rcases i with _|_|i;rw[<-wT U];have:=(L.o k C).1;rw[hp] at this;exact this;rw[<-wT U];have:=(L.o k C).2;rw[hp] at this;exact this;omega);cases U
  obtain⟨A,V⟩:=yB (cL 2 (MX p));have g2:((l.n:Int)-1)=(k:Int):=cN;have g3:(k:Int)<(l.n:Int):=cN;rw[a7,a8] at a;clear hp hq a7 a8 C hk;by_cases h4:q.1<4
  . (have B:x=cx:=by rw[<-a];exact gM ⟨hl0,.inl h4⟩);(subst B;obtain rfl:T=cw:=by rw[d.o];rfl);have g5:decide (q.1<4)=cx:=gM h4;clear a hl0;go_wp2_with (first|refine jo 34 3 33 (N.o _ S.b) ?_|(refine(lH eZ _).mono ?_;rintro e Z ⟨rfl,rfl⟩;rw[F])|refine je S (Y.o _ S.b) λW S=>?_|refine Si (vu V) (by rw[V.o];exact O.o _ S.b) ae ZB ?_|refine fg λW S=>?_);go_ret2;exact aJ
  by_cases h5:eZ<p.1+p.2
  . (have B:x=cx:=by rw[<-a];exact gM ⟨hl0,.inr h5⟩);(subst B;obtain rfl:T=cw:=by rw[d.o];rfl);have g5:decide (q.1<4)=cy:=jG h4;clear a hl0;go_wp2_with (first|(first|refine jo 34 3 33 (N.o _ S.b) ?_|refine jm 38 3 37 S 0 0 (bU cq p.1) ?_|refine jm 40 3 39 S 0 1 (bU cq p.2) ?_)|(refine(lH eZ _).mono ?_;rintro e Z ⟨rfl,rfl⟩;rw[F])|refine je S (Y.o _ S.b) λW S=>?_|refine Si (vu V) (by rw[V.o];exact O.o _ S.b) ae ZB ?_|refine fg λW S=>?_);go_ret2;exact aJ
  have B:x=cy:=by rw[<-a];exact jG λh=>h.2.elim h4 h5
  subst B;have g5:decide (q.1<4)=cy:=jG h4;clear a hl0;go_upto_region 8 with(first|(first|refine jo 34 3 33 (N.o _ S.b) ?_|refine jm 38 3 37 S 0 0 (bU cq p.1) ?_|refine jm 40 3 39 S 0 1 (bU cq p.2) ?_)|(refine(lH eZ _).mono ?_;rintro e Z ⟨rfl,rfl⟩;rw[F])|refine je S (Y.o _ S.b) λW S=>?_|refine Si (vu V) (by rw[V.o];exact O.o _ S.b) ae ZB ?_|refine fg λW S=>?_);replace S:=S.pop
  all_goals
   have C2:=cz λW(c:dR w W)=>Q2 _ l W (HR.o.cP c);obtain⟨ms,a9⟩:=dI (pO [] l);rw[a9] at C2 d;obtain⟨lg,t⟩:=dI (pB ms);rw[t] at d;have K:=cz λu W hu=>aaF u ms W hu;rw[t] at K;clear a9;rcases lg with _|log
   . have z:PM (cw:Option (List Int))=81:=rfl;rw[z] at K;obtain rfl:T=cw:=by rw[d.o];rfl
     clear t z
     go_wp2_with first|(refine ah (C2.o _ S.b) λr W1⟨D,c⟩=>?_;have H:=cz D;have m:=(S.cP c).kn (D1 r) D.blk;clear S c D;have S:=m;clear m;obtain⟨f,j,rfl⟩:∃f j,r=bX f ms.n j:=(by obtain⟨f,j,e,_⟩:=H.o;exact⟨f,j,e⟩))|(refine(K.o _ _ (H.o.kn S.x.2)).mono ?_;rintro e W2 ⟨X,rfl,-,-,c⟩;replace S:=S.cP c;clear c)
     go_ret2;exact aJ
   have z:PM (cu log)=0:=rfl;rw[z] at K;simp only[lx] at K;have a5:=D3 t;obtain⟨c4,c3⟩:=MV t;have b5:=cz (aeB a5);have M:=cz (show(ry log).n=log.n from mQ ..);have d2:log.n<=20480:=cN;clear t z a5 c4;by_cases h7:n<2+log.n
   . obtain rfl:T=cw:=by rw[d.o];simp[h7]
     have g7:(n:Int)<2+(log.n:Int):=cN;clear h7
     go_wp2_with first|(refine ah (C2.o _ S.b) λr W1⟨D,c⟩=>?_;have H:=cz D;have m:=(S.cP c).kn (D1 r) D.blk;clear S c D;have S:=m;clear m;obtain⟨f,j,rfl⟩:∃f j,r=bX f ms.n j:=(by obtain⟨f,j,e,_⟩:=H.o;exact⟨f,j,e⟩))|(refine(K.o _ _ (H.o.kn S.x.2)).mono ?_;rintro e W2 ⟨X,rfl,I,-,c⟩;have HI:=cz I;have m:=(S.cP c).kn (D1 X) I.blk;clear S c I;have S:=m;clear m;obtain⟨c6,c9,rfl⟩:∃f j,X=bX f log.n j:=(by obtain⟨f,j,e,_⟩:=HI.o;exact⟨f,j,e⟩))
     go_ret2;exact aJ
   have a2:T=cu (qQ 2 ms.n++ry log++replicate (n-(2+log.n)) 0):=by rw[d.o];simp[h7]
   have g7:¬(n:Int)<2+(log.n:Int):=cN;have C4:=cz λv u W U hu=>GU v u [2] [ms.n] kB W U hu;rw[ala c3] at C4;have a1:gi 21 (cu (qQ 2 ms.n))=0:=rfl;rw[a1] at C4;simp only[lx] at C4;have b7:=cz (show∀y∈dN [2],(Lit.int cq y).wf=cx by decide);have b8:=cz (show∀y∈dN [ms.n],(Lit.int ct y).wf=cx from λy hy=>by obtain rfl:=fM.1 hy;exact wf_u64 cN);have d5:IntKind.u64.wrap ((ms.n:Nat):Int)=((ms.n:Nat):Int):=by unfold IntKind.wrap;simp[IntKind.bits,IntKind.signed];omega
   have b6:=cz a2;have E:=cz (show 2+log.n<=n by omega);have b9:(2:Nat)<=n:=cN;have b3:=cz (show∀g,lz (s_ g 0) n 2 1=s_ g 2 from λg=>by unfold lz;rw[cZ (by have:=Ih eZ;omega)];rfl);clear a2 h7 a1
   go_wp2_with first|(refine ah (C2.o _ S.b) λr W1⟨D,c⟩=>?_;have H:=cz D;have m:=(S.cP c).kn (D1 r) D.blk;clear S c D;have S:=m;clear m;obtain⟨f,j,rfl⟩:∃f j,r=bX f ms.n j:=(by obtain⟨f,j,e,_⟩:=H.o;exact⟨f,j,e⟩))|(refine(K.o _ _ (H.o.kn S.x.2)).mono ?_;rintro e W2 ⟨X,rfl,I,-,c⟩;have HI:=cz I;have m:=(S.cP c).kn (D1 X) I.blk;clear S c I;have S:=m;clear m;obtain⟨c6,c9,rfl⟩:∃f j,X=bX f log.n j:=(by obtain⟨f,j,e,_⟩:=HI.o;exact⟨f,j,e⟩))|refine mH S cq (dN [2]) qt uT cN cN rfl rfl rfl λW S=>?_|refine mH S ct (dN [ms.n]) vS Ap cN cN rfl rfl rfl λW S=>?_|(refine ah (C4.o _ _ _ (eT.row S.k1 ae (show(1:Nat)<=_ by omega) b7.o) (eT.row S.k0 ae (show(1:Nat)<=_ by omega) b8.o)) λr W⟨ho,c⟩=>?_;have b4:=cz (dx ho);replace S:=S.iv c ho ae ae;clear c;obtain⟨ca,cc,rfl⟩:=b4.o)|refine aiF S oT ad8 rfl rfl cN λW S=>?_|refine aey S 0 rfl (s:=[]) rfl (c8.u' S.q0 (yG 2 ms.n)) (by rw[gh];omega) (by rw[gh];omega) oT CE rfl rfl λW S=>?_|(refine zi ve ae ae b9 ?_;rw[b3.o])|refine aey S 0 rfl (s:=[]++qQ 2 ms.n) (gh 2 ms.n) (by rw[b5.o];exact HI.o.kn S.x.2) (by rw[M.o];have:=E.o;omega) (by rw[M.o];have:=E.o;omega) oT CE rfl rfl λW S=>?_
   go_ret2;rw[b6.o];exact⟨_,ae,aeC S.k0 (S.lo _ (nC ..)) (by have:=E.o;omega) b1 M.o E.o,S.b⟩
end
theorem EZ(w:cS)(t u ty e:dU)(i:TypeInfo)(z:c7)(l:P.underlying t=cu (.slice e))(m:P.underlying u=cu (.int cq))(j:P.info? e=cu i)(p:i.zero=cu z)(n:Nat)(q:0<n)(h:(n:Int)<=9223372036854775807)(g:n*i.bytes<=281474976710656)(r:0<i.s):
 (Builtin.append_ #[t,u] ty #[bX cw 0 0,bU cq n]).run P w=
  .ok (bX (cu ⟨w.h.s,0,cw⟩) n (grownCap w n 0 e)) (w.drew.alloc (.cells (Builtin.zeroCells z.cells n++Builtin.zeroCells z.cells (grownCap w n 0 e-n)) e)):=by
 have k:n≠0:=cN;have c:¬(9223372036854775807<(n:Int)):=cN;have b:¬(281474976710656<Builtin.nextslicecap n 0*i.bytes):=by grind[nextslicecap_zero]
 have o:IntKind.i64.wrap ((n:Nat):Int)=(n:Int):=kS _ cN;have d:¬((n:Int)<0):=cN;have a:¬((281474976710656:Int)<(n:Int)*(i.bytes:Int)):=cN;have f:i.s≠0:=cN;simp[Builtin.append_,yO l,yO m,sizeOf,typeInfo,zeroValue,j,p,asInt,asIntOf,o,d,a,k,f,c,b,Question.forced,run_firstCells_none,newRow,grownCap];grind[Nat.mul_ne_zero]
section
variable {a:Act}
theorem aiG(S:St w0 d l L O X w){by':Nat}(C:a.eval (.tmp x)=bX cw 0 0)(D:a.eval (.tmp y)=bU cq n)(A:xi P t e z by')(B:P.underlying u=cu (.int cq))(o:0<n)(M:n*by'<=281474976710656)(N:n<=1000000)(q:gV e=cy)(r:lS e=cy)(h:∀g c W,n<=c->St w0 d l L (⟨e,z,bX (cu ⟨g,0,cw⟩) 0 c,0,[]⟩::O) X W->wpList P ops Q rest (a.put (cu dst) (bX (cu ⟨g,0,cw⟩) n c)) W):
 wpList P ops Q (⟨cu dst,.call {callee:=.builtin .append,args:=#[.tmp x,.tmp y],argTypes:=#[t,u]},t2,p,af,cw⟩::rest) a w:=by obtain⟨k,J,v,E,F⟩:=A;obtain⟨I,j,m,G,H⟩:=oG v;have b:=EZ (P:=P) w t u t2 e I J k B j m n o cN jv cN;have i:=grownCap_ge w n 0 e;have f:=grownCap_le_maxLen w n 0 e bJ;refine mC ae λK s=>?_;unfold Oper.wp;simp only[execOp,resolve,invoke,builtin,lh,rR,nW,map_toArray,yq,map_nil,C,D,b];refine s _ _ (h w.h.s _ _ i ?_);refine S.drew.iv ((gJ _ _).alloc (eN _) _) ?_ q r;exact World.ownsRow_made (w:=w.drew) _ _ (eN _) f (by rw[Array.size_append,size_zeroCells,size_zeroCells,E,<-Nat.add_mul];grind)
end
section
attribute[local irreducible]wpList Code.wp Calls Oper.wp wpAnyH
def Ve(n:Nat)(a:n<=1000000)(w:cS):CP_ 206 #[bX cw 0 0,bU cq n] w λe w'=>∃v,e=cj v/\w'.ownsRow w.h.s 106 3 v 0 []/\dR w w':=by
 have S:=qR w;have d:¬((n:Int)<0):=cN;rcases vK n with h0|h0
 . have b:(n:Int)=0:=cN;subst h0;go_enter func206,ntmps206;go_wp2;go_ret;exact aJ
 . have f:(0:Int)<(n:Int):=cN;go_enter func206,ntmps206;go_wp2_with (refine aiG S ae ae gX vP h0 cN a ae ae λg c W hc S=>?_);go_ret;exact bu
theorem Ii(l:cV)(h:l[k]?=cu x):(l.take (k+1)).sum=(l.take k).sum+x:=by grind[take_add_one]
theorem Gy(l:cV)(k:Nat):(l.take k).sum<=l.sum:=by grind[take_append_drop]
def MY(d:List (c7×List cQ))(v:c7)(F:d.n<=1000)(G:(d.map λx=>x.2.n).sum<=100000)(w:cS)(R:c8 w 107 1 v d.n (d.map Prod.fst))(F:∀x∈d,lk w x.1 x.2):
 CP_ 153 #[v] w λe w'=>∃r,e=cj r/\il w' w.h.s r (d.flatMap Prod.snd)/\dR w w':=by
 obtain⟨ao,cap,rfl,T,j⟩:=dP R;have Q:=cz R;have E:=cz F;have j:=cz j;obtain⟨ns,y⟩:=sO ((d.map λx=>x.2.n));rw[y.o] at G;have S:=qR w;have n:∀k,k<d.n->∃a l c,d[k]?=cu (.slice a l.n c,l)/\ns[k]?=cu l.n:=λk H=>by obtain⟨x,K⟩:∃x,d[k]?=cu x:=⟨_,jE H⟩;obtain⟨u,l⟩:=x;have Z:=F _ (kA K);obtain⟨a,c,e,_⟩:=dP Z;simp only at e;exact⟨a,l,c,by rw[K,e],by rw[<-y.o,rO,K];rfl⟩
 have m:=cz n;clear R F n;go_enter func153,ntmps153;go_upto_region 3 with(fail);go_loopw [3,11] (λs i wr=>∃k:Nat,k<=d.n/\i=bU cq k/\s=bU cq (((ns.take k).sum:Nat):Int)/\Hid (St w cw [] [] [] (λ_ _=>True) wr)) (λ_ i _=>d.n-(intOf i).m);exact⟨0,cN,ae,by simp,cz S⟩;clear S;obtain⟨k,H,rfl,rfl,hS⟩:=hrel;by_cases q:k<d.n
 . obtain⟨b,o,rfl⟩:=j.o cN;obtain⟨a,l,c,t,z⟩:=m.o k q;have h:=Ii ns z;have f:=Gy ns (k+1);have S:=hS.o;have A:=cz t;have I:(k:Int)<(d.n:Int):=cN;obtain⟨L,g⟩:=dI ((ns.take k).sum);rw[g] at h|-;have p:=cz h;have B:L+l.n<=100000:=cN;clear hS t z h f g;go_wp2_with (refine jF ((Q.o.cP S.b).cellAt cN (by rw[rO,A.o];rfl)) ae ox ?_);go_roundw;exact⟨k+1,cN,by go_num,by rw[p.o];go_num,cz S⟩;exact pR
 . obtain rfl:k=d.n:=cN;have f:=Gy ns d.n;obtain⟨L,g⟩:=dI ((ns.take d.n).sum);rw[g] at f|-;have S:=hS.o;clear hS g;have U:=cz λW=>Ve L cN W;go_upto_region 12 with(refine ah (U.o _) λr W⟨ho,B⟩=>?_;have C:=cz (dx ho);replace S:=S.iv B ho ae ae;clear B;obtain⟨X,Y,rfl⟩:=C.o);go_loopw [6,27] (λu i wr=>∃(k:Nat)(M:List cQ)(a:Option Addr)(c:Nat),k<=d.n/\i=bU cq k/\u=bX a M.n c/\Hid (M=(d.take k).flatMap Prod.snd/\M.n=(ns.take k).sum/\St w cw [] [] [⟨106,3,bX a M.n c,M.n,iS M⟩] (λ_ _=>True) wr)) (λ_ i _=>d.n-(intOf i).m);exact⟨0,[],X,Y,cN,ae,ae,cz ⟨ae,ae,S⟩⟩;clear S;obtain⟨k,M,F,F,H,rfl,rfl,hS⟩:=hrel;by_cases q:k<d.n
   . obtain⟨b,o,rfl⟩:=j.o cN;obtain⟨a,l,c,t,z⟩:=m.o k q;have h:=Ii ns z;have f:=Gy ns (k+1);have S:=hS.o.2.2;have D:=cz hS.o.1;have J:=hS.o.2.1;have A:=cz t;have I:(k:Int)<(d.n:Int):=cN;have p:=cz (show M.n+l.n=(ns.take (k+1)).sum by omega);have B:M.n+l.n<=100000:=cN;have V:=cz (E.o _ (kA t));clear hS t z h f J;go_wp2_with (first|refine jF ((Q.o.cP S.b).cellAt cN (by rw[rO,A.o];rfl)) ae ox ?_|(refine Gq S 0 ae (by':=24) ae ae (V.o.cP S.b) gX (oO _) CK xZ ?_;clear S;intro v' W S));have C:Hid (∃N O,v'=bX N (M.n+l.n) O):=cz (dx S.o0);go_roundw;obtain⟨N,O,rfl⟩:=C.o;refine⟨k+1,M++l,N,O,cN,by go_num,by rw[ji],cz ⟨by rw[D.o,take_add_one,A.o,Lu,flatMap_append];simp,by rw[ji,p.o],?_⟩⟩;rw[ji,jk];exact S;exact pR
   . obtain rfl:k=d.n:=cN;have G:=hS.o.1;rw[qq] at G;have D:=cz G;have S:=hS.o.2.2;clear hS G;go_wp2;go_ret;exact⟨_,ae,by rw[<-D.o];exact S.o0,S.b⟩
end