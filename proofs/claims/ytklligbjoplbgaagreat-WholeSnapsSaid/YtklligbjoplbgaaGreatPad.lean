/- Part 4 of the proof of WholeSnaps. No conditions. -/
import Derived.Test.YtklligbjoplbgaaGreatPac
import Derived.Shelf.SlSortCmp.SmallK
import Derived.Sort.AtCall
set_option linter.all false
open List renaming length->List.n
open String renaming length->String.n
open Array renaming size->Array.s,toList->Array.t
open ByteArray renaming size->ByteArray.s
open Go.TypeInfo renaming size->Go.TypeInfo.s
open Go.RowKit.Below renaming size->Go.RowKit.Below.s
open Option renaming toList->Option.t,some->cu,none->cw
open Go.World renaming heap->Go.World.h
open Int renaming toNat->Int.m
open Go.Value renaming int->bU,agg->bV,pointer->bW,slice->bX,string->bY,bool->bZ,tuple->cg
open Go.Ending renaming returned->cj
open Go.IntKind renaming i64->cq,u64->ct
open Bool renaming true->cx,false->cy
namespace Go.Proofs.YtklligbjoplbgaaGreat
set_option maxRecDepth 100000
set_option maxHeartbeats 64000000
open Go.RowKit Lib List Nat _root_.Go.Proofs.Tryz Go.Shelf
variable {cells cur:gE}{a:Act}{K:Act->cS->Prop}{Z:Act->World->Prop}{parts:Array (Nat×Operand)}{listed:Array Bool}{af:Array Edge}{ops:Array Oper}{ts:Array dU}{A args:Array c7}{s:fF}{R:Ending->World->Prop}{Q:Exit->Act->cS->Prop}{fn:Func}{B bs l:cV}{X Y:cV->cS->Prop}{vs:List (Nat×c7)}{O:List O4}{rest:List Oper}{L M:List R4}{us:List rC}{xs:List c7}{base by' c cap dst fuel i j k m n y z:Nat}{g:Nat×Bool}{f:Nat->c7}{r0:O4}{o o' oi:Oper}{hi lo q:Operand}{gd:Option (Nat×Bool)}{ao:Option Addr}{d:Option Nat}{P Q':Prop}{r:R4}{p pp row:String}{T e t2 ty:dU}{α β:Type}{u:rC}{v:c7}{W w w' w0 wS:cS}{SS:World->Prop}
def G'(u:rC):cV:=[65,81,70,82]++kT [8,8] [u.lT,u.cR]++iM u.iL++kT [4,4] [u.len,u.gm]
theorem xY(u:rC):(G' u).n=44:=by rfl
def rD(u:rC):cV:=G' u++replicate 80 0
def ui(u:rC):cV:=rD u++qQ 4 (kU (rD u))
def lK(u:rC):Option cV:=if lJ u=cx then cu (ui u) else cw
theorem Mm(u:rC):∀x∈G' u,x<256:=by intro x a;unfold G' at a;simp only[gH] at a;rcases a with((a|a)|a)|a;grind;exact wW _ _ x a;exact pX _ x a;exact wW _ _ x a
theorem Uk(u:rC):j0 (ui u):=by grind[ui,rD,xY,gh,Mm,yG,j0]
def oP(u:rC):Prop:=u.lT<18446744073709551616/\u.cR<18446744073709551616/\dD u.iL/\u.len<4294967296/\u.gm<4294967296
theorem DH:∀i,i<3->kV u (2+i)=dF u.iL i:=by intro i hi;unfold kV;grind
section
attribute[local irreducible]wpList Code.wp Calls Oper.wp wpAnyH
def Ul(u:rC)(w:cS):tf 188 #[bV (cL 7 (kV u))] w (bU cq (u.lT%4:Nat)):=by
 have⟨A,HA⟩:=yB (cL 7 (kV u));rw[<-HA.o];have S:=St.start w cw [] xh iG;have a:IntKind.i64.wrap ((u.lT:Int)%4)=((u.lT%4:Nat):Int):=by rw[kS _ cN];omega
 go_enter func188,ntmps188;go_wp2_with (first|((with_reducible refine Zg 1 143 0 ?_);go_must (refine yZ S ae HA.o ae ?_;clear S;intro W S))|((with_reducible refine xz 4 82 3 ?_);go_must (refine yY S 0 ae 0 (v:=bU ct u.lT) ae rn ae fZ ?_)));go_ret;exact⟨gD (λx=>Ending.returned (bU cq x)) cN,S.fr.cP⟩
theorem agp{a b:Nat}(c:a<18446744073709551616)(d:b<18446744073709551616):vR [8,8] [a,b]=cu (kT [8,8] [a,b]):=by unfold vR;rw[df ⟨by decide,ae,by grind[fitAll]⟩]
theorem agq{a b:Nat}(c:a<4294967296)(d:b<4294967296):vR [4,4] [a,b]=cu (kT [4,4] [a,b]):=by unfold vR;rw[df ⟨by decide,ae,by grind[fitAll]⟩]
def aii{a:Nat}(b:a<4294967296):vR [4] [a]=cu (qQ 4 a):=by unfold vR;rw[df ⟨by decide,ae,by simp[fitAll,b]⟩];rfl
theorem wf_i64{x:Nat}(h:x<=9223372036854775807):(Lit.int cq (x:Int)).wf=cx:=by grind[Lit.wf,IntKind.min,IntKind.max,IntKind.bits]
theorem ajL(u:rC):j0 (G' u++replicate 84 0):=by grind[xY,Mm,j0]
theorem aij:(G' u++replicate 84 0).take 124=rD u:=by rfl
def Fl(u:rC)(hp:oP u)(w:cS):CP_ 225 #[bV (cL 7 (kV u))] w λe w'=>∃B,e=cj (cg #[bV B,bU cq (gi 61 (lK u))])/\B=cL 128 (dg ((lK u).getD ff))/\dR w w':=by
 obtain⟨A,K⟩:=fP (cL 7 (kV u));have D:=cz λw=>K▸OK u w;rw[<-K];have G:=cz K;clear K;have S:=St.start w cw [] xh iG;obtain⟨h1,h2,h3,h4,h5⟩:=hp;go_enter func225,ntmps225;cases l:lJ u with
 |false=>
  have a:lK u=cw:=by unfold lK;rw[l];rfl
  rw[a];rw[l] at D;go_wp2_with (first|((with_reducible refine Zg 1 143 0 ?_);go_must (refine yZ S ae G.o ae ?_;clear S;intro W S))|((with_reducible refine G7 2 36 ?_);go_must (refine uU S zeroValue36 vU ae ?_;clear S;intro W S))|((with_reducible refine xz 10 143 1 ?_);go_must (refine Qa S 1 ae ae G.o Fk ?_))|(go_at_call 260;go_must (refine aj (D.o _) λW a=>?_;replace S:=S.cP a;clear a))|((with_reducible refine zZ 13 36 ?_);go_must (refine A7 Rv ?_))|((with_reducible refine tM 36 2 13 ?_);go_must (refine Qc S 0 ae ae ae vU Cd (jC _) ?_;clear S;intro W S))|((with_reducible refine s6 ?_);go_must (refine oY S 0 ae ae ae Cd ae<|Hid.o ?_)));exact cz ⟨_,⟨ae,ae⟩,ae,S.fr.cP⟩
 |true=>
  have a:lK u=cu (ui u):=by unfold lK;rw[l];rfl
  rw[a];rw[l] at D;have Y:=cz λv v' w n C=>agp h1 h2▸GU v v' [8,8] [u.lT,u.cR] kB w n C;have Z:=cz λv v' w n C=>agq h4 h5▸GU v v' [4,4] [u.len,u.gm] kB w n C;have E:=cz λw=>xU u.iL h3 w;have z:ij u.iL=cx:=by
   unfold lJ at l;exact(l6 l).2.2.2.2.1
  rw[z] at E;obtain⟨T,M⟩:=fP (cL 3 (dF u.iL));rw[dk M] at E;have HT:=cz M;clear M z l a;have O:∀x∈dN [8,8],(Lit.int cq x).wf=cx:=by decide
  have Q:∀x∈dN [4,4],(Lit.int cq x).wf=cx:=by decide
  have R:∀x∈dN [u.lT,u.cR],(Lit.int ct x).wf=cx:=by
   intro x g;simp[dN] at g;rcases g with rfl|rfl<;>exact wf_u64 aQ
  have U:∀x∈dN [u.len,u.gm],(Lit.int ct x).wf=cx:=by
   intro x g;simp[dN] at g;rcases g with rfl|rfl<;>exact wf_u64 cN
  have a1:IntKind.u64.wrap (u.len:Int)=(u.len:Int):=BX _ cN;have a2:IntKind.u64.wrap (u.gm:Int)=(u.gm:Int):=BX _ cN;have y:kU (rD u)<4294967296:=LM _ _ kB (λx g=>by
   unfold rD at g;rcases gH.1 g with h|h
   . exact Mm u x h
   . simp at h;omega)
  have N:=aii y;have L:=cz λv v' w n C=>N▸GU v v' [4] [kU (rD u)] kB w n C;have X:IntKind.u64.wrap (kU (rD u):Int)=(kU (rD u):Int):=BX _ cN;obtain⟨c,hc⟩:=dI (kU (rD u));have HS:Hid (ui u=rD u++qQ 4 c):=cz (by unfold ui;rw[hc]);have C6:=cz λv w(n:eT .u8 w v (dN (rD u)))=>hc▸WY v (rD u) w n;rw[hc] at L X y;clear hc;obtain⟨j,b⟩:=dI (kT [8,8] [u.lT,u.cR]);obtain⟨t,d⟩:=dI (iM u.iL);obtain⟨I,f⟩:=dI (kT [4,4] [u.len,u.gm]);obtain⟨J,i⟩:=dI (qQ 4 c);have hB:G' u=[65,81,70,82]++j++t++I:=by unfold G';rw[b,d,f]
  have HB:=cz hB;clear hB;have l1:j.n=16:=by rw[<-b];simp[kT,gh]
  have l2:t.n=16:=by rw[<-d];exact fY _
  have l3:I.n=8:=by rw[<-f];simp[kT,gh]
  have l4:J.n=4:=by rw[<-i,gh]
  have t1:=cz (show∀x∈j,x<256 by rw[<-b];exact wW _ _);have t2:=cz (show∀x∈t,x<256 by rw[<-d];exact pX _);have t3:=cz (show∀x∈I,x<256 by rw[<-f];exact wW _ _);have t4:=cz (show∀x∈J,x<256 by rw[<-i];exact yG _ _);rw[b] at Y;rw[f] at Z;rw[i] at L HS;simp only[oR,d] at E;clear b d f i;have p:=cz l1;have H:=cz l2;have L3:=cz l3;have L4:=cz l4;clear l1 l2 l3 l4;obtain⟨F,HF⟩:=yB (cL 128 (dg (rD u++J)));have V:∀x∈dN [c],(Lit.int ct x).wf=cx:=by
   intro x g;simp[dN] at g;subst g;exact wf_u64 cN
  go_upto_region 17 with(first|((with_reducible refine Zg 1 143 0 ?_);go_must (refine yZ S ae G.o ae ?_;clear S;intro W S))|((with_reducible refine G7 2 36 ?_);go_must (refine uU S zeroValue36 vU ae ?_;clear S;intro W S))|((with_reducible refine xz 10 143 1 ?_);go_must (refine Qa S 1 ae ae G.o Fk ?_))|(go_at_call 260;go_must (refine aj (D.o _) λW a=>?_;replace S:=S.cP a;clear a))|((with_reducible refine XA 15 81 2 ?_);go_must (refine mH S cq [8,8] qt uT cN cN ae ae nz ?_;clear S;intro W S))|((with_reducible refine xz 17 82 16 ?_);go_must (refine yY S 2 ae 0 (v:=bU ct u.lT) ae rn ae fZ ?_))|((with_reducible refine xz 19 82 18 ?_);go_must (refine yY S 2 ae 1 (v:=bU ct u.cR) ae rn ae fZ ?_))|((with_reducible refine XA 20 78 2 ?_);go_must (refine mH S ct [(u.lT:Nat),(u.cR:Nat)] vS Ap cN cN ae ae nz ?_;clear S;intro W S))|(go_at_call 73;refine ah (Y.o _ _ _ (eT.row (S.oW (k:=1) ae) ae rn O) (eT.row (S.oW (k:=0) ae) ae rn R)) λr W⟨ho,a⟩=>?_;replace S:=S.iv a ho ae ae;clear a)|((with_reducible refine xz 29 106 28 ?_);go_must (refine Qb S 3 ae (o:=2) (m:=3) ae (dF u.iL) rn DH HT.o fK ?_))|(go_at_call 233;go_must (refine ah (E.o _) λr W⟨ho,a⟩=>?_;replace S:=S.iv a ho ae ae;clear a))|((with_reducible refine XA 37 81 2 ?_);go_must (refine mH S cq [4,4] qt uT cN cN ae ae nz ?_;clear S;intro W S))|((with_reducible refine xz 39 3 38 ?_);go_must (refine yY S 4 ae 5 (v:=bU cq u.len) ae rn ae DG ?_))|((with_reducible refine xz 42 3 41 ?_);go_must (refine yY S 4 ae 6 (v:=bU cq u.gm) ae rn ae DG ?_))|((with_reducible refine XA 44 78 2 ?_);go_must (refine mH S ct [(u.len:Nat),(u.gm:Nat)] vS Ap cN cN ae ae nz ?_;clear S;intro W S))|(go_at_call 73;refine ah (Z.o _ _ _ (eT.row (S.oW (k:=1) ae) ae rn Q) (eT.row (S.oW (k:=0) ae) ae rn U)) λr W⟨ho,a⟩=>?_;replace S:=S.iv a ho ae ae;clear a)|((with_reducible refine G7 8 36 ?_);go_must (refine uU S zeroValue36 Rn ae ?_;clear S;intro W S))|((with_reducible refine abc 51 ?_);go_must (refine ajK S 0 (s:=[]) ae (q:=0) ae kB kB oT CE ae ?_;clear S;intro W S))|((with_reducible refine RC 53 54 ?_);go_must (refine Uj S 0 (s:=[65,81,70,82]) (bs:=j) ae (q:=4) ae (lN.own (S.uS (k:=2) ae) t1.o) (by show 4+j.n<=128;have:=p.o;omega) (by have:=p.o;omega) oT CE ae ae ?_;clear S;intro W S))|((with_reducible refine RC 56 57 ?_);go_must (refine Uj S 0 (s:=[65,81,70,82]++j) (bs:=t) ae (q:=20) (by have:=p.o;simp;omega) (lN.own (S.uS (k:=1) ae) t2.o) anL (by have:=H.o;omega) oT CE ae ae ?_;clear S;intro W S))|((with_reducible refine RC 59 60 ?_);go_must (refine Uj S 0 (s:=[65,81,70,82]++j++t) (bs:=I) ae (q:=36) anL (lN.own (S.uS (k:=0) ae) t3.o) (by have:=p.o;have:=H.o;have:=L3.o;simp;omega) (by have:=L3.o;omega) oT CE ae ae ?_;clear S;intro W S)))
  go_wp2_with first|((with_reducible refine XA 63 81 1 ?_);go_must (refine mH S cq [4] qt uT cN cN ae ae nz ?_;clear S;intro W S))|(go_at_call 166;go_must (have hR:=S.oW (k:=1) ae;have h:=lN.EA (s:=G' u++replicate 84 0) (by rw[Ml,HB.o];exact hR) (ajL u) 0 124 128 cN cN cN;rw[drop_zero,aij] at h;refine(C6.o _ _ (lN.ints h)).mono ?_;rintro e W ⟨rfl,rfl⟩;clear h hR))|((with_reducible refine XA 67 78 1 ?_);go_must (refine mH S ct [(c:Nat)] vS Ap cN cN ae ae nz ?_;clear S;intro W S))|(go_at_call 73;go_must (refine ah (L.o _ _ _ (eT.row (S.oW (k:=1) ae) ae rn kB) (eT.row (S.oW (k:=0) ae) ae rn V)) λr W⟨ho,a⟩=>?_;replace S:=S.iv a ho ae ae;clear a))|((with_reducible refine RC 74 75 ?_);go_must (refine Uj S 2 (s:=rD u) (bs:=J) (by unfold rD;rw[Ml,HB.o];rfl) (q:=124) (by simp[rD,xY]) (lN.own (S.uS (k:=0) ae) t4.o) (by have:=L4.o;simp[rD,xY];omega) (by have:=L4.o;omega) oT CE ae ae ?_;clear S;intro W S))|((with_reducible refine xz 77 36 8 ?_);go_must (refine Qa S 2 ae ae HF.o Cd ?_))|((with_reducible refine tM 36 2 77 ?_);go_must (refine Qc S 7 ae ae ae HF.o Cd (jC _) ?_;clear S;intro W S))|((with_reducible refine s6 ?_);go_must (refine oY S 7 ae ae ae Cd ae<|Hid.o ?_))
  exact cz ⟨_,⟨ae,ae⟩,by rw[HS.o],S.fr.cP⟩
end
def SE(w0:cS)(d:Option Nat)(l:cV)(L:List R4)(O:List O4):cS->Prop:=λW=>∃X,St w0 d l L O X W
section
variable {P:oN}
variable {x:Nat}
def eu(S:St w0 d l L O X w){id:Nat}(b:P.follows .mixedOrders=cx)(h:∀W,St w0 d l L O X W->wpAnyH P .any ops Q (SE w0 d l L O) ops.s (Array.replicate ops.s cy) a W):(Code.region id ops cx).wp P Q a w:=
 wp_region_held_drew b ⟨X,S.drew⟩ λ_=>h _ S.drew
def SE0(w0:cS)(d:Option Nat)(l:cV):cS->Prop:=λW=>∃L O X,St w0 d l L O X W
def Ce(S:St w0 d l L O X w){id:Nat}(b:P.follows .mixedOrders=cx)(h:∀W,St w0 d l L O X W->wpAnyH P .any ops Q (SE0 w0 d l) ops.s (Array.replicate ops.s cy) a W):(Code.region id ops cx).wp P Q a w:=
 wp_region_held_drew b ⟨L,O,X,S.drew⟩ λ_=>h _ S.drew
def tkG(i:Nat)(dst:Option Nat)(v:c7){SS:cS->Prop}(hS:SS w)(hi:ops[i]?=cu oi)(d:oi.dst=dst)(g:Region.noSelect ops=cx)(e:Region.free .any ops listed i=cx)(f:(Region.ready .any ops listed).contains i=cx)(b:∀c a w,Q (.panic c) (a.put dst v) w->Q (.panic c) a w)(j:YieldsIf P ops SS oi v a)(h:wpAnyH P .any ops Q SS fuel (listed.setIfInBounds i cx) (a.put dst v) w):wpAnyH P .any ops Q SS (fuel+1) listed a w:=by subst d;exact wpAnyH_take hi g e f b j hS h
theorem rd1{SS:cS->Prop}(b:Region.ready .any ops listed=[i])(ho:ops[i]?=cu o)(d:Region.wanted o (yielded ops a.tmps)=cx)(h:∀K,Shut (∀a w,SS w->(SS w->wpAnyH P .any ops Q SS fuel (listed.setIfInBounds i cx) a w)->K a w)->o.wp P a w K Q):wpAnyH P .any ops Q SS (fuel+1) listed a w:=
 wpAnyH_ready b eQ (AllReadyH.cons ho (λK c=>by grind) .nil)
def ajN{SS:cS->Prop}(b:a.eval q=v)(c:Region.wanted ⟨cu dst,.move q,t2,p,af,gd⟩ (yielded ops a.tmps)=cx:=by kernel_rfl):YieldsIf P ops SS ⟨cu dst,.move q,t2,p,af,gd⟩ v a:=by subst b;exact .inl ⟨c,λw _=>by rfl⟩
def agr{SS:cS->Prop}(b:a.eval q=v)(c:Region.wanted ⟨cu dst,.assign q,t2,p,af,gd⟩ (yielded ops a.tmps)=cx:=by kernel_rfl):YieldsIf P ops SS ⟨cu dst,.assign q,t2,p,af,gd⟩ v a:=by subst b;exact .inl ⟨c,λw _=>by rfl⟩
def y8{SS:cS->Prop}(d:parts.t.map (λp=>(p.1,a.eval p.2))=vs)(c:P.built ty vs=cu cells)(b:Region.wanted ⟨cu dst,.build ty parts,t2,p,af,gd⟩ (yielded ops a.tmps)=cx:=by kernel_rfl):YieldsIf P ops SS ⟨cu dst,.build ty parts,t2,p,af,gd⟩ (bV cells) a:=
 Xv b ty parts ae cells amk
def akZ{SS:cS->Prop}(b:Region.wanted o (yielded ops a.tmps)=cy):YieldsIf P ops SS o undef a:=.inr ⟨b,ae⟩
theorem DI(h:w.ownsRow base e z v n xs)(b:0<n):∃g cap,v=bX (cu ⟨g,0,cw⟩) n cap:=by rcases h.2 with⟨_,a⟩|⟨g,cap,cur,rfl,_⟩<;>grind
def lE(c:parts.t.map (λp=>(p.1,a.eval p.2))=vs)(b:P.built ty vs=cu cells)(h:wpList P ops Q rest (a.put (cu dst) (bV cells)) w):wpList P ops Q (⟨cu dst,.build ty parts,t2,p,af,cw⟩::rest) a w:=
 wpList_buildTo ae ty parts ae (cu dst) ae cells amk h
def mi{o:Op}{dst:Option Nat}(b:Region.wanted ⟨dst,o,t2,p,af,cu g⟩ (yielded ops a.tmps)=cx)(h:wpList P ops Q (⟨dst,o,t2,p,af,cw⟩::rest) a w):wpList P ops Q (⟨dst,o,t2,p,af,cu g⟩::rest) a w:=
 Ud b ae h
def ajO{SS:cS->Prop}(_:St w0 d l L O X wS)(k:Nat)(e:∀w,SS w->SE w0 d l L O w)(c:L[k]?=cu r)(i:a.eval (.tmp x)=bW (cu ⟨r.b,0,cw⟩)){A:gE}(b:A=cL r.n r.f)(f:kg P ty r.n)(g:Region.wanted ⟨cu dst,.load ty (.tmp x),t2,p,af,gd⟩ (yielded ops a.tmps)=cx:=by kernel_rfl):YieldsIf P ops SS ⟨cu dst,.load ty (.tmp x),t2,p,af,gd⟩ (bV A) a:=by have⟨⟨dd,hu,hd⟩,hi⟩:=f;have h:=yieldsIf_load_mid (P:=P) (S:=SS) (op:=⟨cu dst,.load ty (.tmp x),t2,p,af,gd⟩) (ops:=ops) g ty (.tmp x) ae r.b 0 i A.t dd (λw h=>by obtain⟨_,S⟩:=e w h;exact Cb (S.oW c) b) hu hd aG;omega
def ak0{SS:cS->Prop}(_:St w0 d l L O X wS)(k:Nat)(j:∀w,SS w->SE w0 d l L O w)(e:L[k]?=cu r){o:Nat}(s:a.eval (.tmp x)=bW (cu ⟨r.b,o,cw⟩))(g:Nat->c7)(f:o+m<=r.n)(c:∀i,i<m->r.f (o+i)=g i){A:gE}(b:A=cL m g)(n:kg P ty m)(q:Region.wanted ⟨cu dst,.load ty (.tmp x),t2,p,af,gd⟩ (yielded ops a.tmps)=cx:=by kernel_rfl):
 YieldsIf P ops SS ⟨cu dst,.load ty (.tmp x),t2,p,af,gd⟩ (bV A) a:=by have⟨⟨dd,hu,hd⟩,hi⟩:=n;have h:=yieldsIf_load_mid (P:=P) (S:=SS) (op:=⟨cu dst,.load ty (.tmp x),t2,p,af,gd⟩) (ops:=ops) q ty (.tmp x) ae r.b o s A.t dd (λw h=>by obtain⟨_,S⟩:=j w h;exact xX (S.oW e) f c b) hu hd aG;omega
theorem gO{SS:cS->Prop}{b o:Nat}(hc:∀w,SS w->w.cell? ⟨b,o,cw⟩=cu v)(g:a.eval (.tmp x)=bW (cu ⟨b,o,cw⟩))(d:lD P ty)(e:Region.wanted ⟨cu dst,.load ty (.tmp x),t2,p,af,gd⟩ (yielded ops a.tmps)=cx:=by kernel_rfl):YieldsIf P ops SS ⟨cu dst,.load ty (.tmp x),t2,p,af,gd⟩ v a:=by
 have⟨⟨dd,hu,hd⟩,hi⟩:=d;refine .inl ⟨e,λw f=>?_⟩;have c:(isAgg ty).run P w=.ok cy w:=by unfold isAgg;rw[lh,yO hu w];cases dd<;>simp_all [TypeDesc.isRow]
 simp_all[execOp,Instr.loadAt,Instr.sureAddr,loadVar]
def uj{SS:cS->Prop}(_:St w0 d l L O X wS)(k:Nat)(c:∀w,SS w->SE w0 d l L O w)(b:L[k]?=cu r)(i:Nat)(f:r.f i=v)(hi:i<r.n)(j:a.eval (.tmp x)=bW (cu ⟨r.b,i,cw⟩))(e:lD P ty)(g:Region.wanted ⟨cu dst,.load ty (.tmp x),t2,p,af,gd⟩ (yielded ops a.tmps)=cx:=by kernel_rfl):YieldsIf P ops SS ⟨cu dst,.load ty (.tmp x),t2,p,af,gd⟩ v a:=
 gO (λw h=>by obtain⟨_,S⟩:=c w h;rw[S.cell b hi,f]) j e g
theorem adT{w:cS}{base:Nat}{e:dU}{g n cap:Nat}{xs:List c7}(h:w.ownsRow base e 1 (bX (cu ⟨g,0,cw⟩) n cap) n xs){j:Nat}{v:c7}(a:xs[j]?=cu v):w.cell? ⟨g,j,cw⟩=cu v:=by have:=h.cells (g:=g) ae j v a;grind[Addr.add]
theorem ags{SS:cS->Prop}(_:St w0 d l L O X wS)(k:Nat){o:O4}(c:∀w,SS w->SE w0 d l L O w)(b:O[k]?=cu o)(t:o.z=1){g:Nat}(s:o.v=bX (cu ⟨g,0,cw⟩) n cap)(r:o.n=n)(j:Nat)(q:o.xs[j]?=cu v)(i:a.eval (.tmp x)=bW (cu ⟨g,j,cw⟩))(e:lD P ty)(f:Region.wanted ⟨cu dst,.load ty (.tmp x),t2,p,af,gd⟩ (yielded ops a.tmps)=cx:=by kernel_rfl):YieldsIf P ops SS ⟨cu dst,.load ty (.tmp x),t2,p,af,gd⟩ v a:=
 gO (λw h=>by obtain⟨_,S⟩:=c w h;have m:=S.uS b;grind[adT]) i e f
def Ha(S:St w0 d l L O X w){Z:gE}(c:∀w,(zeroValue ty).run P w=.ok (bV Z) w)(b:Z=cL n f)(ho:gV ty=cy)(h:∀W,St w0 d l (⟨w.h.s,ty,n,f⟩::L) O X W->K (a.put (cu dst) (bW (cu ⟨w.h.s,0,cw⟩))) W):Oper.wp P ⟨cu dst,.alloc ty,t2,p,af,cw⟩ a w K Q:=by unfold Oper.wp execOp;simp only[lh,Instr.alloc,c,newVar,newRow,Gl,rR,nW];exact h _ (S.alloc ty b ho)
def kq(S:St w0 d l L O X w)(k:Nat)(b:L[k]?=cu r){A:gE}(j:a.eval (.tmp x)=bW (cu ⟨r.b,0,cw⟩))(m:a.eval (.tmp y)=bV A)(e:A=cL r.n f)(g:kg P ty r.n)(c:∀i,(f i).oneCell'=cx)(h:∀W,St w0 d l (L.set k ⟨r.b,r.t,r.n,f⟩) O X W->K (a.put cw undef) W):Oper.wp P ⟨cw,.store ty (.tmp x) (.tmp y),t2,p,af,cw⟩ a w K Q:=by subst e;unfold Oper.wp execOp;simp only[j,m,Instr.storeAt,Instr.sureAddr,lh,rR,nW,run_storeVar_row w ty r.b r.t r.n r.f f (S.oW b) g.2 c];exact h _ (S.set b f)
theorem ajP(S:St w0 d l L O X w)(k:Nat)(e:L[k]?=cu r)(i:Nat)(hi:i<r.n)(z:a.eval (.tmp x)=bW (cu ⟨r.b,i,cw⟩))(A:a.eval q=v)(y:v.oneCell'=cx)(f:lD P ty)(h:∀W,St w0 d l (L.set k ⟨r.b,r.t,r.n,λj=>if j=i then v else r.f j⟩) O X W->K (a.put cw undef) W):Oper.wp P ⟨cw,.store ty (.tmp x) q,t2,p,af,cw⟩ a w K Q:=by
 have b:=nS (S.oW e) (o:=i) (n:=1) cN;have c:=Mf (P:=P) r.b i [v] 0 w (λj m=>by simpa using(b j cN).1) (λj m=>by simpa using(b j cN).2) (λu B=>by grind);have hc:v.cells=#[v]:=by cases v<;>first|rfl|cases y
 have g:(storeVar ty ⟨r.b,i,cw⟩ v).run P w=.ok () (w.setCell ⟨r.b,i,cw⟩ v):=by cases s:P.info? ty with|none=>have:=f.2;grind|some it=>(have t:it.s=1:=by have:=f.2;grind);simp only[xJ] at c;simp[storeVar,sizeOf,typeInfo,s,hc,t,c];rfl
 unfold Oper.wp execOp;simp only[z,A,Instr.storeAt,Instr.sureAddr,lh,rR,nW,g];exact h _ (S.put e i v)
end
class ru(ty:dU):Prop where
 h:lD prog ty
class sE(ty:dU)(n:outParam Nat):Prop where
 h:kg prog ty n
instance ina5898 :sE 106 3:=⟨fK⟩
instance in030b1 :sE 191 24:=⟨CH⟩
instance inf6ee7 :sE 36 128:=⟨Cd⟩
instance in7c776 :sE 143 7:=⟨Fk⟩
instance in547ec :ru 82:=⟨fZ⟩
instance in65a1c :ru 3:=⟨DG⟩
section
variable {w:World}{Q:Exit->Act->World->Prop}
variable {w0:World}{l:List Nat}{X:List Nat->World->Prop}
def jo(dst ty x:Nat)[h1:ru ty]{b o:Nat}(hc:w.cell? ⟨b,o,cw⟩=cu v)(h:wpList prog ops Q rest (a.put (cu dst) v) w)(c:a.eval (.tmp x)=bW (cu ⟨b,o,cw⟩):=by with_unfolding_all rfl):wpList prog ops Q (⟨cu dst,.load ty (.tmp x),t2,p,af,cw⟩::rest) a w:=jF hc c h1.h h
def jg(dst ty x:Nat)[h1:ru ty]{b o:Nat}(hc:w.cell? ⟨b,o,cw⟩=cu v)(h:wpList prog ops Q rest (a.put (cu dst) v) w)(d:a.eval (.tmp x)=bW (cu ⟨b,o,cw⟩):=by with_unfolding_all rfl)(c:Region.wanted ⟨cu dst,.load ty (.tmp x),t2,p,af,cu g⟩ (yielded ops a.tmps)=cx:=by kernel_rfl):wpList prog ops Q (⟨cu dst,.load ty (.tmp x),t2,p,af,cu g⟩::rest) a w:=mi c (jF hc d h1.h h)
def jl(dst ty x:Nat)[h1:ru ty](S:St w0 d l L O X w)(k i:Nat)(v:c7)(h:wpList prog ops Q rest (a.put (cu dst) v) w)(b:L[k]?=cu r:=by with_unfolding_all rfl)(c:r.f i=v:=by with_unfolding_all rfl)(hi:i<r.n:=by with_unfolding_all exact l6 rfl)(e:a.eval (.tmp x)=bW (cu ⟨r.b,i,cw⟩):=by with_unfolding_all rfl):wpList prog ops Q (⟨cu dst,.load ty (.tmp x),t2,p,af,cw⟩::rest) a w:=yY S k b i c hi e h1.h h
def jm(dst ty x:Nat)[h1:ru ty](S:St w0 d l L O X w)(k i:Nat)(v:c7)(h:wpList prog ops Q rest (a.put (cu dst) v) w)(b:L[k]?=cu r:=by with_unfolding_all rfl)(c:r.f i=v:=by with_unfolding_all rfl)(hi:i<r.n:=by with_unfolding_all exact l6 rfl)(f:a.eval (.tmp x)=bW (cu ⟨r.b,i,cw⟩):=by with_unfolding_all rfl)(e:Region.wanted ⟨cu dst,.load ty (.tmp x),t2,p,af,cu g⟩ (yielded ops a.tmps)=cx:=by kernel_rfl):wpList prog ops Q (⟨cu dst,.load ty (.tmp x),t2,p,af,cu g⟩::rest) a w:=mi e (yY S k b i c hi f h1.h h)
def jr(dst ty x:Nat)[h1:sE ty n](S:St w0 d l L O X w)(k:Nat){b:Nat}{t:dU}(c:A=cL n f)(h:wpList prog ops Q rest (a.put (cu dst) (bV A)) w)(e:L[k]?=cu ⟨b,t,n,f⟩:=by with_unfolding_all rfl)(g:a.eval (.tmp x)=bW (cu ⟨b,0,cw⟩):=by with_unfolding_all rfl):wpList prog ops Q (⟨cu dst,.load ty (.tmp x),t2,p,af,cw⟩::rest) a w:=Qa S k e g c h1.h h
def jj(dst ty x:Nat)[h1:sE ty n](S:St w0 d l L O X w)(k:Nat){b:Nat}{t:dU}(c:A=cL n f)(h:wpList prog ops Q rest (a.put (cu dst) (bV A)) w)(e:L[k]?=cu ⟨b,t,n,f⟩:=by with_unfolding_all rfl)(j:a.eval (.tmp x)=bW (cu ⟨b,0,cw⟩):=by with_unfolding_all rfl)(i:Region.wanted ⟨cu dst,.load ty (.tmp x),t2,p,af,cu g⟩ (yielded ops a.tmps)=cx:=by kernel_rfl):wpList prog ops Q (⟨cu dst,.load ty (.tmp x),t2,p,af,cu g⟩::rest) a w:=mi i (Qa S k e j c h1.h h)
def js(ty x y:Nat)[h1:sE ty n](S:St w0 d l L O X w)(k:Nat){g:Nat->c7}{b:Nat}{t:dU}(e:A=cL n f)(c:∀i,(f i).oneCell'=cx)(h:∀W,St w0 d l (L.set k ⟨b,t,n,f⟩) O X W->wpList prog ops Q rest (a.put cw undef) W)(j:L[k]?=cu ⟨b,t,n,g⟩:=by with_unfolding_all rfl)(m:a.eval (.tmp x)=bW (cu ⟨b,0,cw⟩):=by with_unfolding_all rfl)(o:a.eval (.tmp y)=bV A:=by with_unfolding_all rfl):wpList prog ops Q (⟨cw,.store ty (.tmp x) (.tmp y),t2,p,af,cw⟩::rest) a w:=Qc S k j m o e h1.h c h
def jb(dst ty:Nat)(S:St w0 d l L O X w){Z:Array c7}(c:∀w,(zeroValue ty).run prog w=.ok (bV Z) w)(b:Z=cL n f)(h:∀W,St w0 d l (⟨w.h.s,ty,n,f⟩::L) O X W->wpList prog ops Q rest (a.put (cu dst) (bW (cu ⟨w.h.s,0,cw⟩))) W)(ho:gV ty=cy:=by with_unfolding_all rfl):wpList prog ops Q (⟨cu dst,.alloc ty,t2,p,af,cw⟩::rest) a w:=uU S c b ho h
def jx(dst ty x:Nat)(S:St w0 d l L O X w)(b:A=cL n f)(h:∀W,St w0 d l (⟨w.h.s,ty,n,f⟩::L) O X W->wpList prog ops Q rest (a.put (cu dst) (bW (cu ⟨w.h.s,0,cw⟩))) W)(c:a.eval (.tmp x)=bV A:=by with_unfolding_all rfl)(ho:gV ty=cy:=by with_unfolding_all rfl):wpList prog ops Q (⟨cu dst,.box ty (.tmp x),t2,p,af,cw⟩::rest) a w:=yZ S c b ho h
def mY{n:Fi_}(C:CP_ n args w λe w'=>e=cj v/\w=w')(h:R (cj v) w):CP_ n args w R:=
 C.mono λe W ⟨he,hb⟩=>by subst he hb;exact h
def je{n:Fi_}(S:St w0 d l L O X w)(C:CP_ n args w λe w'=>e=cj v/\Below w.h.s w w')(h:∀W,St w0 d l L O X W->R (cj v) W):CP_ n args w R:=
 C.mono λe W ⟨he,hb⟩=>by subst he;exact h W (S.cP hb)
def jz(h:P:=by first|exact⟨_,S⟩|exact⟨_,_,_,S⟩|exact⟨_,_,S,λ_ a=>absurd a jK⟩|exact⟨_,_,_,S,λ_ a=>absurd a jK⟩|exact⟨_,_,_,S,λ_ a=>absurd a jK,S.x.1.1.2⟩|exact⟨_,_,_,S,by simp only[mml,mmp,implies_true],S.x.1.1.2⟩|exact⟨_,_,S,by simp only[mml,mmp,implies_true]⟩|exact⟨_,_,_,S,by simp only[mml,mmp,implies_true]⟩):P:=h
end
section
variable {P:oN}{w:World}{Q:Exit->Act->World->Prop}
variable {w0:World}{l:List Nat}{X:List Nat->World->Prop}{x:Nat}
theorem abd{g:Nat->c7}(h:∀i,i<n->f i=g i):cL n f=cL n g:=by
 apply yp;intro i;rw[dy,dy];split;next hi=>rw[h i hi]
 rfl
def St.xN(S:St w0 d l L O X w)(e:L[k]?=cu r){g:Nat->c7}(f:∀i,i<r.n->g i=r.f i):St w0 d l (L.set k ⟨r.b,r.t,r.n,g⟩) O X w:=by have a:eS (L.set k ⟨r.b,r.t,r.n,g⟩) O=eS L O:=gD (· ++O.filterMap O4.ob) (Fj (r':=⟨r.b,r.t,r.n,g⟩) e ae);refine⟨S.fr,λq h=>?_,S.own,by rw[a];exact S.lo,by rw[a];exact S.nd,by rw[a];exact S.x,S.mh⟩;rcases vy h with h1|rfl;exact S.row q h1;have c:=S.row r (kA e);refine⟨?_,c.2⟩;have b:=c.1;unfold cM at b|-;(show w.h[r.b]?=_);rw[b,abd (λi hi=>(f i hi).symm)]
def xA(S:St w0 d l L O X w)(k:Nat)(e:L[k]?=cu r)(i:Nat)(g:Nat->c7)(f:∀j,j<r.n->g j=if j=i then v else r.f j)(hi:i<r.n)(o:a.eval (.tmp x)=bW (cu ⟨r.b,i,cw⟩))(s:a.eval q=v)(n:v.oneCell'=cx)(m:lD P ty)(h:∀W,St w0 d l (L.set k ⟨r.b,r.t,r.n,g⟩) O X W->wpList P ops Q rest (a.put cw undef) W):wpList P ops Q (⟨cw,.store ty (.tmp x) q,t2,p,af,cw⟩::rest) a w:=by refine vz S k e i hi o s n m λW hS=>h W ?_;have b:k<L.n:=(nB.1 e).1;have c:=hS.xN (k:=k) (r:=⟨r.b,r.t,r.n,λj=>if j=i then v else r.f j⟩) (by rw[BI,df ae,df b]) (g:=g) f;rw[set_set] at c;exact c
def DJ(S:St w0 d l L O X w)(e:a.eval (.tmp x)=v)(c:v.cells=#[v])(ho:gV ty=cy)(h:∀W,St w0 d l (⟨w.h.s,ty,1,λ_=>v⟩::L) O X W->wpList P ops Q rest (a.put (cu dst) (bW (cu ⟨w.h.s,0,cw⟩))) W):wpList P ops Q (⟨cu dst,.box ty (.tmp x),t2,p,af,cw⟩::rest) a w:=by refine mC ae λK b=>?_;unfold Oper.wp execOp;simp only[lh,Instr.box,newVar,newRow,Gl,rR,nW];rw[e,c];exact ano
end
def A8{P:oN}{w:World}{Q:Exit->Act->World->Prop}{w0:World}{l:List Nat}{X:List Nat->World->Prop}(S:St w0 d l L O X w)(c:∀w,(zeroValue ty).run P w=.ok v w)(hc:v.cells=#[v])(ho:gV ty=cy)(h:∀W,St w0 d l (⟨w.h.s,ty,1,λ_=>v⟩::L) O X W->wpList P ops Q rest (a.put (cu dst) (bW (cu ⟨w.h.s,0,cw⟩))) W):wpList P ops Q (⟨cu dst,.alloc ty,t2,p,af,cw⟩::rest) a w:=by refine mC ae λK b=>?_;unfold Oper.wp execOp;simp only[lh,Instr.alloc,c,newVar,newRow,Gl,rR,nW];rw[hc];exact ano
def rd2{P:oN}{w:World}{Q:Exit->Act->World->Prop}(f:Region.ready .any ops listed=[i,j])(ho:ops[i]?=cu o)(c:ops[j]?=cu o')(g:Region.wanted o (yielded ops a.tmps)=cx)(d:Region.wanted o' (yielded ops a.tmps)=cx)(h:∀K,Shut (∀a w,SS w->(SS w->wpAnyH P .any ops Q SS fuel (listed.setIfInBounds i cx) a w)->K a w)->o.wp P a w K Q)(e:∀K,Shut (∀a w,SS w->(SS w->wpAnyH P .any ops Q SS fuel (listed.setIfInBounds j cx) a w)->K a w)->o'.wp P a w K Q):wpAnyH P .any ops Q SS (fuel+1) listed a w:=
 wpAnyH_ready f (by simp) (AllReadyH.cons ho (λK b=>by rw[df g];exact h K b) (AllReadyH.cons c (λK b=>by rw[df d];exact e K b) .nil))
section
variable {w:World}{Q:Exit->Act->World->Prop}
variable {w0:World}{l:List Nat}{X:List Nat->World->Prop}
def CI(h:P:=by simp only[mml,mmp,implies_true]):P:=h
def kI(i:Nat)(h:∀K,Shut (∀a w,SS w->(SS w->wpAnyH prog .any ops Q SS fuel (listed.setIfInBounds i cx) a w)->K a w)->o.wp prog a w K Q)(b:Region.ready .any ops listed=[i]:=by kernel_rfl)(ho:ops[i]?=cu o:=by rfl)(c:Region.wanted o (yielded ops a.tmps)=cx:=by kernel_rfl):wpAnyH prog .any ops Q SS (fuel+1) listed a w:=rd1 b ho c h
def qg(i:Nat)(h:∀K,Shut (∀a w,SS w->(SS w->wpAnyH prog .any ops Q SS fuel (listed.setIfInBounds i cx) a w)->K a w)->o.wp prog a w K Q)(b:Region.ready .any ops listed=[i]:=by decide+kernel)(ho:ops[i]?=cu o:=by rfl)(c:Region.wanted o (yielded ops a.tmps)=cx:=by kernel_rfl):wpAnyH prog .any ops Q SS (fuel+1) listed a w:=rd1 b ho c h
def Zi(i j:Nat)(h:∀K,Shut (∀a w,SS w->(SS w->wpAnyH prog .any ops Q SS fuel (listed.setIfInBounds i cx) a w)->K a w)->o.wp prog a w K Q)(d:∀K,Shut (∀a w,SS w->(SS w->wpAnyH prog .any ops Q SS fuel (listed.setIfInBounds j cx) a w)->K a w)->o'.wp prog a w K Q)(e:Region.ready .any ops listed=[i,j]:=by kernel_rfl)(ho:ops[i]?=cu o:=by rfl)(b:ops[j]?=cu o':=by rfl)(f:Region.wanted o (yielded ops a.tmps)=cx:=by kernel_rfl)(c:Region.wanted o' (yielded ops a.tmps)=cx:=by kernel_rfl):wpAnyH prog .any ops Q SS (fuel+1) listed a w:=rd2 e ho b f c h d
def BE(i j:Nat)(h:∀K,Shut (∀a w,SS w->(SS w->wpAnyH prog .any ops Q SS fuel (listed.setIfInBounds i cx) a w)->K a w)->o.wp prog a w K Q)(d:∀K,Shut (∀a w,SS w->(SS w->wpAnyH prog .any ops Q SS fuel (listed.setIfInBounds j cx) a w)->K a w)->o'.wp prog a w K Q)(e:Region.ready .any ops listed=[i,j]:=by decide+kernel)(ho:ops[i]?=cu o:=by rfl)(b:ops[j]?=cu o':=by rfl)(f:Region.wanted o (yielded ops a.tmps)=cx:=by kernel_rfl)(c:Region.wanted o' (yielded ops a.tmps)=cx:=by kernel_rfl):wpAnyH prog .any ops Q SS (fuel+1) listed a w:=rd2 e ho b f c h d
def qx(h:Q .normal a w)(b:Region.ready .any ops listed=[]:=by kernel_rfl):wpAnyH prog .any ops Q SS fuel listed a w:=wpAnyH_done b h _
def Te(h:Hid (Q .normal a w))(b:Region.ready .any ops listed=[]:=by decide+kernel):wpAnyH prog .any ops Q SS fuel listed a w:=wpAnyH_done b h.o _
def gq{K:Act->World->Prop}(b:Shut (∀a w,SS w->(SS w->Z a w)->K a w))(q:Q')(h:Q'->Z a w:=by intro q;(try simp only[Oq]);exact q)(hS:SS w:=by exact jz):K a w:=b.out _ _ hS λ_=>h q
def aM{x:Nat}(h:YieldsIf prog ops SS ⟨cu dst,.load ty (.tmp x),t2,p,af,gd⟩ v a):YieldsIf prog ops SS ⟨cu dst,.load ty (.tmp x),t2,p,af,gd⟩ v a:=h
def yR{x:Nat}{t:dU}{wS:World}(S:St w0 d l L O X wS)(k:Nat){b:Nat}(g:∀w,SS w->SE w0 d l L O w)(e:L[k]?=cu ⟨b,t,n,f⟩)(i:a.eval (.tmp x)=bW (cu ⟨b,0,cw⟩))[h1:sE ty n](c:A=cL n f)(h:Region.wanted ⟨cu dst,.load ty (.tmp x),t2,p,af,gd⟩ (yielded ops a.tmps)=cx:=by kernel_rfl):YieldsIf prog ops SS ⟨cu dst,.load ty (.tmp x),t2,p,af,gd⟩ (bV A) a:=ajO S k g e i c h1.h h
def hy_(h:P:=by first|exact ajN rfl|exact agr rfl|(refine aM ?_;first|exact uj S 0 (λ_ h=>h) rfl _ rfl (l6 rfl) rfl ru.h|exact uj S 1 (λ_ h=>h) rfl _ rfl (l6 rfl) rfl ru.h|exact uj S 2 (λ_ h=>h) rfl _ rfl (l6 rfl) rfl ru.h|exact uj S 3 (λ_ h=>h) rfl _ rfl (l6 rfl) rfl ru.h|exact uj S 4 (λ_ h=>h) rfl _ rfl (l6 rfl) rfl ru.h|exact uj S 5 (λ_ h=>h) rfl _ rfl (l6 rfl) rfl ru.h|exact gO (λw h=>cM.cell (h.row 0 rfl) (l6 rfl)) rfl ru.h|exact gO (λw h=>cM.cell (h.row 1 rfl) (l6 rfl)) rfl ru.h|exact gO (λw h=>cM.cell (h.row 2 rfl) (l6 rfl)) rfl ru.h|exact gO (λw h=>cM.cell (h.row 3 rfl) (l6 rfl)) rfl ru.h|exact gO (λw h=>cM.cell (h.row 4 rfl) (l6 rfl)) rfl ru.h|exact yR S 0 (λ_ h=>h) rfl rfl Zj|exact yR S 1 (λ_ h=>h) rfl rfl Zj|exact yR S 2 (λ_ h=>h) rfl rfl Zj|exact yR S 3 (λ_ h=>h) rfl rfl Zj)|exact Or.inl ⟨by kernel_rfl,λw a=>by(try simp only[dE]);go_simp⟩):P:=h
def dh(i:Nat)(v:c7){sP:Oper}(q:Q')(hi:ops[i]?=cu sP:=by rfl)(d:sP.dst=cu dst:=by rfl)(j:YieldsIf prog ops SS sP v a:=by exact hy_)(h:Q'->wpAnyH prog .any ops Q SS fuel (listed.setIfInBounds i cx) (a.put (cu dst) v) w:=by intro q;simp only[Oq,dE];exact q)(hS:SS w:=by exact jz)(g:Region.noSelect ops=cx:=by kernel_rfl)(e:Region.free .any ops listed i=cx:=by kernel_rfl)(f:(Region.ready .any ops listed).contains i=cx:=by kernel_rfl)(b:∀c a w,Q (.panic c) (a.put (cu dst) v) w->Q (.panic c) a w:=by exact λ_ _ _ h=>h):wpAnyH prog .any ops Q SS (fuel+1) listed a w:=tkG i (cu dst) v hS hi d g e f b j (h q)
def nA(i:Nat)(v:c7){sP:Oper}(q:Q')(hi:ops[i]?=cu sP:=by rfl)(d:sP.dst=cu dst:=by rfl)(f:(Region.ready .any ops listed).contains i=cx:=by decide+kernel)(j:YieldsIf prog ops SS sP v a:=by exact hy_)(h:Q'->wpAnyH prog .any ops Q SS fuel (listed.setIfInBounds i cx) (a.put (cu dst) v) w:=by intro q;simp only[Oq,dE];exact q)(hS:SS w:=by exact jz)(g:Region.noSelect ops=cx:=by kernel_rfl)(e:Region.free .any ops listed i=cx:=by kernel_rfl)(b:∀c a w,Q (.panic c) (a.put (cu dst) v) w->Q (.panic c) a w:=by exact λ_ _ _ h=>h):wpAnyH prog .any ops Q SS (fuel+1) listed a w:=tkG i (cu dst) v hS hi d g e f b j (h q)
def gZ(i:Nat)(v:c7){sP:Oper}(hi:ops[i]?=cu sP)(j:YieldsIf prog ops SS sP v a)(q:Q')(d:sP.dst=cu dst:=by rfl)(h:Q'->wpAnyH prog .any ops Q SS fuel (listed.setIfInBounds i cx) (a.put (cu dst) v) w:=by intro q;simp only[Oq,dE];exact q)(hS:SS w:=by exact jz)(g:Region.noSelect ops=cx:=by kernel_rfl)(e:Region.free .any ops listed i=cx:=by kernel_rfl)(f:(Region.ready .any ops listed).contains i=cx:=by kernel_rfl)(b:∀c a w,Q (.panic c) (a.put (cu dst) v) w->Q (.panic c) a w:=by exact λ_ _ _ h=>h):wpAnyH prog .any ops Q SS (fuel+1) listed a w:=tkG i (cu dst) v hS hi d g e f b j (h q)
def nv_(i:Nat)(v:c7){sP:Oper}(hi:ops[i]?=cu sP)(j:YieldsIf prog ops SS sP v a)(q:Q')(d:sP.dst=cu dst:=by rfl)(f:(Region.ready .any ops listed).contains i=cx:=by decide+kernel)(h:Q'->wpAnyH prog .any ops Q SS fuel (listed.setIfInBounds i cx) (a.put (cu dst) v) w:=by intro q;simp only[Oq,dE];exact q)(hS:SS w:=by exact jz)(g:Region.noSelect ops=cx:=by kernel_rfl)(e:Region.free .any ops listed i=cx:=by kernel_rfl)(b:∀c a w,Q (.panic c) (a.put (cu dst) v) w->Q (.panic c) a w:=by exact λ_ _ _ h=>h):wpAnyH prog .any ops Q SS (fuel+1) listed a w:=tkG i (cu dst) v hS hi d g e f b j (h q)
def pQ(i:Nat){sP:Oper}(q:Q')(hi:ops[i]?=cu sP:=by rfl)(d:sP.dst=cu dst:=by rfl)(j:Region.wanted sP (yielded ops a.tmps)=cy:=by kernel_rfl)(h:Q'->wpAnyH prog .any ops Q SS fuel (listed.setIfInBounds i cx) (a.put (cu dst) undef) w:=by intro q;simp only[Oq,dE];exact q)(hS:SS w:=by exact jz)(g:Region.noSelect ops=cx:=by kernel_rfl)(e:Region.free .any ops listed i=cx:=by kernel_rfl)(f:(Region.ready .any ops listed).contains i=cx:=by kernel_rfl)(b:∀c a w,Q (.panic c) (a.put (cu dst) undef) w->Q (.panic c) a w:=by exact λ_ _ _ h=>h):wpAnyH prog .any ops Q SS (fuel+1) listed a w:=tkG i (cu dst) undef hS hi d g e f b (akZ j) (h q)
def qR(w:World):St w cw [] [] [] (λ_ _=>True) w:=St.start w cw [] xh iG
def St.k0{r0:R4}(S:St w0 d l (r0::L) O X w):cM w r0.b r0.t r0.n r0.f:=S.oW (k:=0) ae
theorem St.k1{r0 kI:R4}(S:St w0 d l (r0::kI::L) O X w):cM w kI.b kI.t kI.n kI.f:=S.oW (k:=1) ae
theorem St.k2{r0 kI Zi:R4}(S:St w0 d l (r0::kI::Zi::L) O X w):cM w Zi.b Zi.t Zi.n Zi.f:=S.oW (k:=2) ae
def St.o0(S:St w0 d l L (r0::O) X w):w.ownsRow w0.h.s r0.e r0.z r0.v r0.n r0.xs:=S.uS (k:=0) ae
def St.o1{kI:O4}(S:St w0 d l L (r0::kI::O) X w):w.ownsRow w0.h.s kI.e kI.z kI.v kI.n kI.xs:=S.uS (k:=1) ae
def St.o2{kI Zi:O4}(S:St w0 d l L (r0::kI::Zi::O) X w):w.ownsRow w0.h.s Zi.e Zi.z Zi.v Zi.n Zi.xs:=S.uS (k:=2) ae
def St.q0{e:Nat}(S:St w0 d l L (⟨e,z,v,n,xs⟩::O) X w):c8 w e z v n xs:=c8.jR S.o0
theorem St.q1{e:Nat}(S:St w0 d l L (r0:: ⟨e,z,v,n,xs⟩::O) X w):c8 w e z v n xs:=c8.jR S.o1
theorem St.b(S:St w0 cw [] L O X w):Below w0.h.s w0 w:=S.fr.cP
def xZ(h:P:=by unfold maxLen;(try simp only);omega):P:=h
def CK(h:P:=by(try simp only);omega):P:=h
theorem sp_(h:P:=by simp;omega):P:=h
def vu(h:Hid (A=cL n f)):A.s=n:=by rw[h.o,cW]
def ha_(h:A=cL n f):A.s=n:=by rw[h,cW]
def RE{o:Op}{dst:Option Nat}{g:Option (Nat×Bool)}(b:Region.wanted ⟨dst,o,t2,p,af,g⟩ (yielded ops a.tmps)=cx)(h:wpList prog ops Q (⟨dst,o,t2,p,af,cw⟩::rest) a w):wpList prog ops Q (⟨dst,o,t2,p,af,g⟩::rest) a w:=by cases g with|none=>exact h|some g=>exact mi b h
section
variable {x:Nat}
def Wj(h:wpList prog ops Q (⟨cu dst,.load ty (.tmp x),t2,p,af,gd⟩::rest) a w):wpList prog ops Q (⟨cu dst,.load ty (.tmp x),t2,p,af,gd⟩::rest) a w:=h
def zC[h1:ru ty]{b o:Nat}(hc:w.cell? ⟨b,o,cw⟩=cu v)(h:wpList prog ops Q rest (a.put (cu dst) v) w)(d:a.eval (.tmp x)=bW (cu ⟨b,o,cw⟩):=by with_unfolding_all rfl)(c:Region.wanted ⟨cu dst,.load ty (.tmp x),t2,p,af,gd⟩ (yielded ops a.tmps)=cx:=by kernel_rfl):
 wpList prog ops Q (⟨cu dst,.load ty (.tmp x),t2,p,af,gd⟩::rest) a w:=RE c (jF hc d h1.h h)
def AD{b o:Nat}(R:c8 w e z (bX (cu ⟨b,o,cw⟩) n cap) n xs)(f:j<n)(c:A.s=z)(d:∀i,i<z->xs[j*z+i]?=A[i]?)(h:wpList prog ops Q rest (a.put (cu dst) (bV A)) w)[h1:sE ty z](k:a.eval (.tmp x)=bW (cu ⟨b,o+j*z,cw⟩):=by with_unfolding_all rfl)(g:Region.wanted ⟨cu dst,.load ty (.tmp x),t2,p,af,gd⟩ (yielded ops a.tmps)=cx:=by kernel_rfl):wpList prog ops Q (⟨cu dst,.load ty (.tmp x),t2,p,af,gd⟩::rest) a w:=RE g (ajJ R f k c d h1.h h)
def EC(S:St w0 d l L O X w)(k:Nat)(b:L[k]?=cu r)(i:Nat)[h1:ru ty](c:r.f i=v)(h:wpList prog ops Q rest (a.put (cu dst) v) w)(hi:i<r.n:=by with_unfolding_all exact l6 rfl)(f:a.eval (.tmp x)=bW (cu ⟨r.b,i,cw⟩):=by with_unfolding_all rfl)(e:Region.wanted ⟨cu dst,.load ty (.tmp x),t2,p,af,gd⟩ (yielded ops a.tmps)=cx:=by kernel_rfl):wpList prog ops Q (⟨cu dst,.load ty (.tmp x),t2,p,af,gd⟩::rest) a w:=RE e (yY S k b i c hi f h1.h h)
def oM_(S:St w0 d l L O X w)(k:Nat)(e:L[k]?=cu r){o:Nat}(g:Nat->c7)(c:∀i,i<m->r.f (o+i)=g i)(b:A=cL m g)(h:wpList prog ops Q rest (a.put (cu dst) (bV A)) w)[h1:sE ty m](f:o+m<=r.n:=by with_unfolding_all exact l6 rfl)(n:a.eval (.tmp x)=bW (cu ⟨r.b,o,cw⟩):=by with_unfolding_all rfl)(j:Region.wanted ⟨cu dst,.load ty (.tmp x),t2,p,af,gd⟩ (yielded ops a.tmps)=cx:=by kernel_rfl):wpList prog ops Q (⟨cu dst,.load ty (.tmp x),t2,p,af,gd⟩::rest) a w:=RE j (Qb S k e n g f c b h1.h h)
end
end
class CV(f:Nat->c7)(i:Nat)(v:outParam c7):Prop where
 h:f i=v
class OF(f:Nat->c7):Prop where
 h:∀i,(f i).oneCell'=cx
class ZR(ty:dU)(n:outParam Nat)(f:outParam (Nat->c7)):Prop where
 h:∃Z,(∀w,(zeroValue ty).run prog w=.ok (bV Z) w)/\Z=cL n f
class Z1(ty:dU)(v:outParam c7):Prop where
 h:(∀w,(zeroValue ty).run prog w=.ok v w)/\v.cells=#[v]
class AO(A:Array c7)(n:outParam Nat)(f:outParam (Nat->c7)):Prop where
 h:A=cL n f
class B0(ty:dU)(A:outParam (Array c7)):Prop where
 h:prog.built ty []=cu A
instance cvK(v:c7)(i:Nat):CV (λ_=>v) i v:=⟨rfl⟩
section
variable {w:World}{Q:Exit->Act->World->Prop}{P:oN}
variable {w0:World}{l:List Nat}{X:List Nat->World->Prop}{x:Nat}
def aL(h:wpList P ops Q (⟨cu dst,.load ty (.tmp x),t2,p,af,cw⟩::rest) a w):wpList P ops Q (⟨cu dst,.load ty (.tmp x),t2,p,af,cw⟩::rest) a w:=h
def aA(h:wpList P ops Q (⟨cu dst,.alloc ty,t2,p,af,cw⟩::rest) a w):wpList P ops Q (⟨cu dst,.alloc ty,t2,p,af,cw⟩::rest) a w:=h
def aB(h:wpList P ops Q (⟨cu dst,.box ty (.tmp x),t2,p,af,cw⟩::rest) a w):wpList P ops Q (⟨cu dst,.box ty (.tmp x),t2,p,af,cw⟩::rest) a w:=h
def gL(S:St w0 d l L O X w){b:Nat}{t:dU}[h1:ru ty](g:a.eval (.tmp x)=bW (cu ⟨b,i,cw⟩))(e:L[k]?=cu ⟨b,t,n,f⟩)[c:CV f i v](hi:i<n)(h:wpList prog ops Q rest (a.put (cu dst) v) w):
 wpList prog ops Q (⟨cu dst,.load ty (.tmp x),t2,p,af,cw⟩::rest) a w:=yY S k e i c.h hi g h1.h h
def gR(S:St w0 d l L O X w)[h1:sE ty n]{b:Nat}{t:dU}(g:a.eval (.tmp x)=bW (cu ⟨b,0,cw⟩))(e:L[k]?=cu ⟨b,t,n,f⟩)(c:A=cL n f)(h:wpList prog ops Q rest (a.put (cu dst) (bV A)) w):
 wpList prog ops Q (⟨cu dst,.load ty (.tmp x),t2,p,af,cw⟩::rest) a w:=Qa S k e g c h1.h h
def gA(S:St w0 d l L O X w)[c:ZR ty n f](ho:gV ty=cy)(h:∀W,St w0 d l (⟨w.h.s,ty,n,f⟩::L) O X W->wpList prog ops Q rest (a.put (cu dst) (bW (cu ⟨w.h.s,0,cw⟩))) W):
 wpList prog ops Q (⟨cu dst,.alloc ty,t2,p,af,cw⟩::rest) a w:=by have⟨Z,h1,h2⟩:=c.h;exact uU S h1 h2 ho h
def gA1(S:St w0 d l L O X w)[c:Z1 ty v](ho:gV ty=cy)(h:∀W,St w0 d l (⟨w.h.s,ty,1,λ_=>v⟩::L) O X W->wpList prog ops Q rest (a.put (cu dst) (bW (cu ⟨w.h.s,0,cw⟩))) W):
 wpList prog ops Q (⟨cu dst,.alloc ty,t2,p,af,cw⟩::rest) a w:=A8 S c.h.1 c.h.2 ho h
def gB(S:St w0 d l L O X w)[h1:sE ty n](c:a.eval (.tmp x)=bV A)(b:A=cL n f)(ho:gV ty=cy)(h:∀W,St w0 d l (⟨w.h.s,ty,n,f⟩::L) O X W->wpList prog ops Q rest (a.put (cu dst) (bW (cu ⟨w.h.s,0,cw⟩))) W):
 wpList prog ops Q (⟨cu dst,.box ty (.tmp x),t2,p,af,cw⟩::rest) a w:=yZ S c b ho h
def gS(S:St w0 d l L O X w)[h1:sE ty n]{b:Nat}{t:dU}{g:Nat->c7}(m:a.eval (.tmp x)=bW (cu ⟨b,0,cw⟩))(j:L[k]?=cu ⟨b,t,n,g⟩)(o:a.eval (.tmp y)=bV A)(e:A=cL n f)[c:OF f](i:L.set k ⟨b,t,n,f⟩=M)(h:∀W,St w0 d l M O X W->wpList prog ops Q rest (a.put cw undef) W):
 wpList prog ops Q (⟨cw,.store ty (.tmp x) (.tmp y),t2,p,af,cw⟩::rest) a w:=Qc S k j m o e h1.h c.h (i▸h)
def gN(S:St w0 d l L O X w){Z:Array c7}[h1:sE ty n](g:a.eval (.tmp x)=bW (cu ⟨w.h.s,0,cw⟩))(i:a.eval (.tmp y)=bV A)(b:A=cL n f)[c:OF f](ho:gV ty=cy)(e:Z.s=n)(h:∀W,St w0 d l (⟨w.h.s,ty,n,f⟩::L) O X W->wpList prog ops Q rest (a.put cw undef) W):
 wpList prog ops Q (⟨cw,.store ty (.tmp x) (.tmp y),t2,p,af,cw⟩::rest) a (w.alloc (.cells Z ty)):=oX S g i b h1.h ho e c.h h
def aC(h:wpList P ops Q (⟨cu dst,.buildSlice ty 1 #[(0,.tmp x)],t2,p,af,cw⟩::rest) a w):wpList P ops Q (⟨cu dst,.buildSlice ty 1 #[(0,.tmp x)],t2,p,af,cw⟩::rest) a w:=h
def aP(h:wpList P ops Q (⟨cw,.store ty (.tmp x) q,t2,p,af,cw⟩::rest) a w):wpList P ops Q (⟨cw,.store ty (.tmp x) q,t2,p,af,cw⟩::rest) a w:=h
def aU(h:wpList P ops Q (⟨cu dst,.build ty #[],t2,p,af,cw⟩::rest) a w):wpList P ops Q (⟨cu dst,.build ty #[],t2,p,af,cw⟩::rest) a w:=h
def gP(S:St w0 d l L O X w)[h1:ru ty]{b:Nat}{t:dU}(m:a.eval (.tmp x)=bW (cu ⟨b,0,cw⟩))(g:L[k]?=cu ⟨b,t,1,f⟩)(n:a.eval q=v)(i:v.oneCell'=cx)(e:L.set k ⟨b,t,1,λ_=>v⟩=M)(h:∀W,St w0 d l M O X W->wpList prog ops Q rest (a.put cw undef) W):
 wpList prog ops Q (⟨cw,.store ty (.tmp x) q,t2,p,af,cw⟩::rest) a w:=
 xA S k g 0 (λ_=>v) (λj c=>by have c:j<1:=c;obtain rfl:j=0:=(by omega);rfl) Nat.one_pos m n i h1.h (e▸h)
def gT2(S:St w0 d l L O X w){b:Nat}{t:dU}{p q:Tmp}(h:fn.results=#[.cell p ty,.tmp q])(i:a.tmps.getD p undef=bW (cu ⟨b,0,cw⟩))(g:L[k]?=cu ⟨b,t,n,f⟩)[h1:sE ty n](e:a.defers=[])(c:R (cj (cg #[bV (cL n f),a.tmps.getD q undef])) w):bodyPost prog fn R .ret a w:=oY S k g h i h1.h e c
def gT3(S:St w0 d l L O X w){b:Nat}{t:dU}{p q c:Tmp}(h:fn.results=#[.cell p ty,.tmp q,.tmp c])(j:a.tmps.getD p undef=bW (cu ⟨b,0,cw⟩))(i:L[k]?=cu ⟨b,t,n,f⟩)[h1:sE ty n](g:a.defers=[])(e:R (cj (cg #[bV (cL n f),a.tmps.getD q undef,a.tmps.getD c undef])) w):bodyPost prog fn R .ret a w:=G9 S k i h j h1.h g e
def gT1(S:St w0 d l L O X w){b:Nat}{t:dU}{p:Tmp}(h:fn.results=#[.cell p ty])(i:a.tmps.getD p undef=bW (cu ⟨b,0,cw⟩))(g:L[k]?=cu ⟨b,t,n,f⟩)[h1:sE ty n](e:a.defers=[])(c:R (cj (bV (cL n f))) w):bodyPost prog fn R .ret a w:=ago S k g h i h1.h e c
end
def Zk(h:P:=by with_unfolding_all rfl):P:=h
def wd_(h:P:=by with_unfolding_all exact l6 rfl):P:=h
def ev_(h:P:=by(try simp only[Oq]);with_unfolding_all rfl):P:=h
def Zj(h:P:=by with_reducible first|assumption|(refine Hid.o ?_;assumption)|exact pS|exact iO|exact ot|exact Zh|exact adU|exact vU|exact adV|exact adW|exact adX|exact Zl|rfl):P:=h
section
variable {a0 a1 a2 a3 a4 a5 a6 a7:R4}
theorem e0:(a0::L)[0]?=cu a0:=rfl
theorem e1:(a0::a1::L)[1]?=cu a1:=rfl
theorem e2:(a0::a1::a2::L)[2]?=cu a2:=rfl
theorem e3:(a0::a1::a2::a3::L)[3]?=cu a3:=rfl
theorem e4:(a0::a1::a2::a3::a4::L)[4]?=cu a4:=rfl
theorem e5:(a0::a1::a2::a3::a4::a5::L)[5]?=cu a5:=rfl
theorem e6:(a0::a1::a2::a3::a4::a5::a6::L)[6]?=cu a6:=rfl
theorem e7:(a0::a1::a2::a3::a4::a5::a6::a7::L)[7]?=cu a7:=rfl
end
def rk_(h:P:=by(try simp only[BJ,FV]);with_reducible first|exact Go.Proofs.YtklligbjoplbgaaGreat.e0|exact Go.Proofs.YtklligbjoplbgaaGreat.e1|exact Go.Proofs.YtklligbjoplbgaaGreat.e2|exact Go.Proofs.YtklligbjoplbgaaGreat.e3|exact Go.Proofs.YtklligbjoplbgaaGreat.e4|exact Go.Proofs.YtklligbjoplbgaaGreat.e5|exact Go.Proofs.YtklligbjoplbgaaGreat.e6|exact Go.Proofs.YtklligbjoplbgaaGreat.e7):P:=h
def sl_(h:P:=by(try simp only[BJ,FV]);rfl):P:=h
def fL{Q:Prop}(q:Q)(h:Q->P:=by
 intro q
 first|((with_reducible refine aL ?_);first|exact gL S Zk rk_ wd_ q|exact gR S Zk rk_ Zj q)|((with_reducible refine aU ?_);first|exact A7 Mn q|exact A7 adY q|exact A7 agu q|exact A7 agv q|exact A7 adZ q|exact A7 Rv q|exact A7 agw q|exact A7 agx q|exact A7 ad0 q)):P:=h q
def fg{Q:Prop}(q:Q)(h:Q->P:=by
 intro q
 first|((with_reducible refine aA ?_);first|exact gA S rfl q|exact gA1 S rfl q)|((with_reducible refine aB ?_);first|exact gB S Zk Zj rfl q|exact DJ S ev_ rfl rfl q)|((with_reducible refine aC ?_);first|exact Mg S Zk Zj gX (by omega) rfl q|exact Mg S Zk Zj Jn (by omega) rfl q|exact Mg S Zk Zj XB (by omega) rfl q|exact Mg S Zk Zj ail (by omega) rfl q|exact Mg S Zk Zj aim (by omega) rfl q|exact Mg S Zk Zj Zm (by omega) rfl q)|((with_reducible refine aP ?_);first|exact gP S Zk rk_ ev_ rfl sl_ q|exact gS S Zk rk_ Zk Zj sl_ q|exact gN S Zk Zk Zj rfl (by rfl) q)):P:=h q
def mA{Q:Prop}(q:Q)(h:Q->P:=by
 intro q
 with_reducible refine s6 ?_
 first|exact gT2 S rfl rfl rk_ rfl q|exact gT3 S rfl rfl rk_ rfl q|exact gT1 S rfl rfl rk_ rfl q):P:=h q
instance in1dcc1(x:cQ):OF (dF x):=⟨dJ x⟩
instance incd7a9(s:List Nat):OF (dg s):=⟨jC s⟩
instance inee145(l:Nat->cQ):OF (eV l):=⟨nQ l⟩
instance in5715c(u:rC):OF (kV u):=⟨ug u⟩
instance in11ec6(a:Way):OF (nR a):=⟨adJ a⟩
instance inf7a63 :ZR 106 3 (dF cX):=⟨_,xC,iO⟩
instance in8b829 :ZR 36 128 (dg ff):=⟨_,zeroValue36,vU⟩
instance in0396c :ZR 191 24 (eV mX):=⟨_,zeroValue191,Ey⟩
instance in8f1ca :ZR 193 51 (nR P8):=⟨_,zeroValue193,agm⟩
instance in5fc21 :ZR 143 7 (kV mu):=⟨_,zeroValue143,Zh⟩
instance in68f14 :Z1 82 (bU ct 0):=⟨zeroValue82,rfl⟩
instance in653bb :Z1 3 (bU cq 0):=⟨zeroValue3,rfl⟩
instance infd7cf :Z1 27 (bU cq 0):=⟨zeroValue27,rfl⟩
instance infa201 :Z1 107 (bX cw 0 0):=⟨zeroValue107,rfl⟩
instance in69130 :Z1 78 (bX cw 0 0):=⟨zeroValue78,rfl⟩
section
variable {F:Fence}{P:oN}
def Open(F:Fence):Prop:=F= {Fence.wide with round:=F.round}
def ak1:Open Fence.wide:=rfl
def ak2(l:Nat):Open (Fence.wide.inRound l):=rfl
def sP{P:Prop}(h:P:=by first|exact ak1|exact ak2 _):P:=h
def vw{P:Prop}(h:P:=by rintro⟨_,_,h⟩;first|exact h|exact absurd h.1 eQ|(obtain⟨_,h,_⟩:=h;cases h)):P:=h
def Um(b:Open F){args:gE}{R:c7->cS->Prop}(h:Rows P row args w R):RowsIn F n P row args w R:=
 λc a _=>let⟨v,w',r,s⟩:=h c a;⟨v,w',r,by rw[b];exact stepsIn_wide.2 s⟩
def ajQ(b:Open F)(g:∀c,o.op≠.defer c)(h:o.wp P a w K Q):o.wpIn F n P a w K Q:=by refine⟨λf _=>by rw[b];trivial,?_⟩;rw[Oper.semAt_eq _ _ _ g];unfold Oper.wp at h;cases i:(execOp a.eval o).run P w with|ok nx w'=>(rw[i] at h;cases nx with|value v=>exact h|skip=>exact h|defer d=>exact h|enter f args=>exact⟨λg=>absurd g (by rw[b];simp[Fence.wide]),by rw[b];exact(ue (n:=n-1)).2 (Calls.mono h λe w h=>by omega)⟩|row r args=>exact⟨λg=>absurd g (by rw[b];simp[Fence.wide]),Um b h⟩|_=>exact h.elim)|halt x w'=>rw[i] at h;cases x with|panic v=>exact h|_=>exact h.elim
def Hb(l:List Oper):Bool:=l.all λo=>match o.op with| .defer _=>cy|_=>cx
theorem Cf{l:List Oper}(h:Hb l=cx){o:Oper}(ho:o∈l):∀c,o.op≠.defer c:=by intro c e;have:=(rz.1 h) o ho;grind
theorem XC(b:Open F){ops:Array Oper}{Q:Exit->Act->cS->Prop}(d:¬LetsOut Q):∀(l:List Oper),(∀o∈l,∀c,o.op≠.defer c)->∀a w,wpList P ops Q l a w->wpListIn F n P ops Q l a w
 | [],_,_,_,h=>h
 |o::l,hd,a,w,h=>by
  unfold wpListIn;unfold wpList at h;split
  . next hw=>
    rw[df hw] at h;exact ajQ b (hd o (nC ..)) (Oper.wp_mono (λa w h=>XC b d l (λo ho=>hd o (lu _ ho)) a w h) (h.resolve_right λh=>d h.2))
  . next hw=>
    rw[cZ hw] at h;exact⟨λf _=>by rw[b];trivial,XC b d l (λo ho=>hd o (lu _ ho)) _ _ h⟩
theorem Un(d:Open F){ops:Array Oper}{Q:Exit->Act->cS->Prop}(e:¬LetsOut Q)(g:∀o∈ops.t,∀c,o.op≠.defer c):∀(fuel:Nat)(listed:Array Bool)(a:Act)(w:cS),wpAny P .any ops Q fuel listed a w->wpAnyIn F n P .any ops Q fuel listed a w
 |0,_,_,_,h=>h
 |fuel+1,listed,a,w,h=>by
  refine⟨h.1,λi hi=>?_⟩;have b:=h.2 i hi;unfold wpOp at b;unfold wpOpIn;cases ho:ops[i]? with
  |none=>rw[ho] at b;exact Un d e g fuel _ _ _ b
  |some o=>
   rw[ho] at b;have j:o∈ops.t:=by
    grind
   simp only at b|-;split
   . next hw=>
     rw[df hw] at b;exact ajQ d (g o j) (Oper.wp_mono (λa w h=>Un d e g fuel _ a w h) (b.resolve_right λh=>e h.2))
   . next hw=>
     rw[cZ hw] at b;exact⟨λf _=>by rw[d];trivial,Un d e g fuel _ _ _ b⟩
theorem j9(b:Open F){id:Nat}{l:List Oper}(d:Hb l=cx)(c:¬LetsOut Q)(h:wpList P l.toArray Q l a w):(Code.region id l.toArray cy).wpIn F n P Q a w:=
 by grind[wpIn_region_lit,XC,Cf]
def Aq(b:Open F){ops:List Oper}(S:St w0 d l L O X w){id:Nat}(f:P.follows .mixedOrders=cx)(e:Hb ops=cx)(c:¬LetsOut Q)(h:∀W,St w0 d l L O X W->wpAnyH P .any ops.toArray Q (SE w0 d l L O) ops.toArray.s (Array.replicate ops.toArray.s cy) a W):(Code.region id ops.toArray cx).wpIn F n P Q a w:=by exact wpIn_region_any f (Un b c (λ_ ho=>Cf e cN) _ _ _ _ (wpAny_of_held _ _ _ _ (h _ S.drew)))
end
def Gm(s:cV)(q:cQ):rC:=⟨jL ((s.drop 4).take 8),jL ((s.drop 12).take 8),q,jL ((s.drop 36).take 4),jL ((s.drop 40).take 4)⟩
def kb(s:cV):Option rC:=match nZ ((s.drop 20).take 16) with
 |none=>cw
 |some q=>if lK (Gm s q)=cu s then cu (Gm s q) else cw
theorem agy(h:bs.n=16):sw [8,8] bs=cu [jL (bs.take 8),jL ((bs.drop 8).take 8)]:=by unfold sw;simp_all[pz,okW,sY]
theorem agz(h:bs.n=8):sw [4,4] bs=cu [jL (bs.take 4),jL ((bs.drop 4).take 4)]:=by unfold sw;simp_all[pz,okW,sY]
theorem XD{s:cV}(h:∀x∈s,x<256)(o n:Nat):∀x∈(s.drop o).take n,x<256:=by grind
theorem Hc{s:cV}(h:∀x∈s,x<256){q:cQ}(a:dD q):oP (Gm s q):=by have c:∀o,jL ((s.drop o).take 8)<256^8:=λo=>Dt (XD h o 8) jv;have b:∀o,jL ((s.drop o).take 4)<256^4:=λo=>Dt (XD h o 4) jv;grind[oP,Gm]
theorem xj{bs:cV}(h:∀x∈bs,x<256){q:cQ}(a:nZ bs=cu q):dD q:=by grind[nZ,Gb]
section
attribute[local irreducible]wpList Code.wp Calls Oper.wp wpAnyH
def RF(s:cV)(l:j0 s)(w:cS):CP_ 187 #[bV (cL 128 (dg s))] w λe w'=>∃U,e=cj (cg #[bV U,bZ (kb s).isSome])/\U=cL 7 (kV ((kb s).getD mu))/\dR w w':=by
 obtain⟨A,hA⟩:=fP (cL 128 (dg s));rw[<-hA];have Z:=cz hA;clear hA;have S:=qR w;obtain⟨n1,O⟩:=dI (jL ((s.drop 4).take 8));obtain⟨n2,Q⟩:=dI (jL ((s.drop 12).take 8));obtain⟨z,R⟩:=dI (jL ((s.drop 36).take 4));obtain⟨C,V⟩:=dI (jL ((s.drop 40).take 4));have D:sw [8,8] ((s.drop 4).take 16)=cu [n1,n2]:=by
  rw[agy (by rw[lP,tY,l.1];rfl),<-O,<-Q,take_take,drop_take,drop_drop,take_take];rfl
 have E:sw [4,4] ((s.drop 36).take 8)=cu [z,C]:=by
  rw[agz (by rw[lP,tY,l.1];rfl),<-R,<-V,take_take,drop_take,drop_drop,take_take];rfl
 have C1:=cz λv u w hv m hc=>D▸JX v u [8,8] ((s.drop 4).take 16) kB w hv m hc;have C3:=cz λv u w hv m hc=>E▸JX v u [4,4] ((s.drop 36).take 8) kB w hv m hc;have N:=cz λu w m hc=>wX u ((s.drop 20).take 16) w m hc;have M:∀x∈dN [8,8],(Lit.int cq x).wf=cx:=by decide
 have a3:∀x∈dN [4,4],(Lit.int cq x).wf=cx:=by decide
 cases j:nZ ((s.drop 20).take 16) with
 |none=>
  have Y:kb s=cw:=by unfold kb;rw[j]
  rw[Y];obtain⟨T,t⟩:=fP (cL 3 (dF cX));rw[j,show(cw:Option cQ).getD cX=cX from rfl,dk t] at N;have HT:=cz t;clear O Q R V D E t;go_enter func187,ntmps187
  go_wp2_with first|refine mH S cq [8,8] qt uT cN cN rfl rfl nz λW S=>?_|(go_at_call 29;have f:=S.k2;have h:=lN.EA f l 4 16 124 cN cN cN;refine(C1.o _ _ _ (eT.row S.k0 rfl rn M) h.ints h.cap).mono ?_;rintro e W ⟨r,rfl,ho,a⟩;clear h f;replace S:=S.iv a ho rfl rfl;clear a ho)|(go_at_call 195;have f:=S.k2;have h:=lN.EA f l 20 16 108 cN cN cN;refine(N.o _ _ h.ints h.cap).mono ?_;rintro e W ⟨rfl,a⟩;clear h f;replace S:=S.cP a;clear a)|(refine mA ?_;exact⟨_,rfl,rfl,S.b⟩)|refine fg λW S=>?_
 |some q=>
  have J:=xj (XD l.2 20 16) j;have L:=Hc (s:=s) l.2 J;obtain⟨T,t⟩:=fP (cL 3 (dF q));rw[j,show(cu q:Option cQ).getD cX=q from rfl,dk t] at N;have HT:=cz t;clear t;obtain⟨u,m⟩:=dI (Gm s q);have o:u=⟨n1,n2,q,z,C⟩:=by rw[<-m,<-O,<-Q,<-R,<-V];rfl
  have d:kb s=if lK u=cu s then cu u else cw:=by unfold kb;rw[j];simp only[m]
  obtain⟨U,X⟩:=fP (cL 7 (kV u));have i:oP u:=by rw[<-m];exact L
  have F:=cz λw=>Fl u i w;rw[<-X] at F;have y:=X;rw[o,Mi] at y;have a1:=cz y;have HU:=cz X;have a4:z<4294967296:=by have:=i.2.2.2.1;rw[o] at this;exact this
  have w3:IntKind.i64.wrap (z:Int)=(z:Int):=kS _ cN;have a5:C<4294967296:=by have:=i.2.2.2.2;rw[o] at this;exact this
  have w4:IntKind.i64.wrap (C:Int)=(C:Int):=kS _ cN;have n:=cz d;clear O Q R V D E X y j L i J m o d;go_enter func187,ntmps187
  go_upto_region 7 with(first|refine mH S cq [8,8] qt uT cN cN rfl rfl nz λW S=>?_|(go_at_call 29;(have f:=S.k2;have h:=lN.EA f l 4 16 124 cN cN cN;refine(C1.o _ _ _ (eT.row S.k0 rfl rn M) h.ints h.cap).mono ?_;rintro e W ⟨r1,rfl,ho,a⟩;clear h f;replace S:=S.iv a ho rfl rfl;clear a ho))|(go_at_call 195;have f:=S.k2;have h:=lN.EA f l 20 16 108 cN cN cN;refine(N.o _ _ h.ints h.cap).mono ?_;rintro e W ⟨rfl,a⟩;clear h f;replace S:=S.cP a;clear a)|refine fg λW S=>?_)
  go_upto_region 10 with(first|refine mH S cq [4,4] qt uT cN cN rfl rfl nz λW S=>?_|(have f:=S.oW (k:=4) rfl;have h:=lN.EA f l 36 8 92 cN cN cN;refine(C3.o _ _ _ (eT.row S.k0 rfl rn a3) h.ints h.cap).mono ?_;rintro e W ⟨r2,rfl,ho,a⟩;clear h f;replace S:=S.iv a ho rfl rfl;clear a ho))
  have e2:∃g c,r2=bX (s_ g 0) 2 c:=DI S.o0 (Nat.zero_lt_two);have e1:∃g c,r1=bX (s_ g 0) 2 c:=DI S.o1 (Nat.zero_lt_two);obtain⟨E,c2,rfl⟩:=e2;obtain⟨D,c1,rfl⟩:=e1;refine eu S dC λW S=>?_;refine dh 0 _ ?_;refine dh 1 (dE D 0) ?_;refine gZ 2 (bU ct n1) rfl (ags S 1 (λ_ h=>h) rfl rfl rfl rfl 0 rfl rfl fZ) ?_;refine dh 3 _ ?_;refine dh 4 (dE D 1) ?_;refine gZ 5 (bU ct n2) rfl (ags S 1 (λ_ h=>h) rfl rfl rfl rfl 1 rfl rfl fZ) ?_;refine gZ 6 (bV #[bU cq q.1,bU ct q.2.1,bU .u32 q.2.2]) rfl (ajO S 1 (λ_ h=>h) rfl rfl (zM q).symm fK) ?_;refine dh 7 _ ?_;refine dh 8 (dE E 0) ?_;refine gZ 9 (bU ct z) rfl (ags S 0 (λ_ h=>h) rfl rfl rfl rfl 0 rfl rfl fZ) ?_;refine dh 10 (bU cq z) ?_;refine dh 11 _ ?_;refine dh 12 (dE E 1) ?_;refine gZ 13 (bU ct C) rfl (ags S 0 (λ_ h=>h) rfl rfl rfl rfl 1 rfl rfl fZ) ?_;refine dh 14 (bU cq C) ?_;refine gZ 15 (bV U) rfl (y8 rfl (by rw[a1.o];kernel_rfl)) ?_;refine kI 16 λK I=>?_;refine Ha S zeroValue143 Zh rfl λW S=>?_;refine I.out _ _ ⟨_,S.pop⟩ λ_=>?_
  try simp only[Oq]
  clear I K;refine kI 17 λK I=>?_;refine kq S 0 rfl rfl rfl HU.o Fk (ug _) λW S=>?_;refine I.out _ _ ⟨_,S.pop⟩ λ_=>?_
  try simp only[Oq]
  clear I K;refine qx ?_;cases a:lK u with
  |none=>
   rw[a,show gi 61 (cw:Option cV)=61 from rfl] at F;rw[a] at n;have Y:kb s=cw:=by rw[n.o];simp
   have p:=cz Y;clear Y
   go_wp2_with first|(refine(F.o _).mono ?_;rintro e W ⟨B,rfl,H,a⟩;have G:=cz H;replace S:=S.cP a;clear H a)|(refine mA ?_;exact⟨_,by rw[p.o];rfl,by rw[p.o];rfl,S.b⟩)|refine fL ?_|refine fg λW S=>?_
  |some b=>
   rw[a,show gi 61 (cu b)=0 from rfl] at F;rw[a] at n;have a2:j0 b:=by
    unfold lK at a;split at a;· cases a;exact Uk u
    . cases a
   obtain⟨r,hr⟩:=dI (Mb b s);have j:=ahH b s r hr;rw[<-Z.o] at j;have HQ:=cz j;have d:kb s=if r=cx then cu u else cw:=by
    rw[n.o,<-hr,aa7 a2 l];by_cases h:b=s<;>simp[h]
   clear j hr
   go_upto_region 12 with(first|(refine(F.o _).mono ?_;rintro e W ⟨B,rfl,H,a⟩;have G:=cz H;replace S:=S.cP a;clear H a)|refine fL ?_|refine fg λW S=>?_)
   have j:=HQ.o;rw[show(cu b).getD ff=b from rfl] at G;rw[<-G.o] at j;cases r with
   |false=>
    have p:=cz (show kb s=cw from d);clear d
    go_wp2_with (first
   |(first|refine jj 60 36 9 S 0 G.o ?_|refine jj 61 36 1 S 6 Z.o ?_)
   |(refine mA ?_;exact⟨_,by rw[p.o];rfl,by rw[p.o];rfl,S.b⟩)
   |refine fg λW S=>?_)
   |true=>
    have p:=cz (show kb s=cu u from d);clear d
    go_wp2_with first|(first|refine jj 60 36 9 S 0 G.o ?_|refine jj 61 36 1 S 6 Z.o ?_)|(refine mA ?_;exact⟨_,by rw[p.o];rfl,by rw[p.o];rfl,S.b⟩)|refine fL ?_|refine fg λW S=>?_
end
def XE:Ren:=⟨fun|6=>189|15=>157|14=>237|28=>217|29=>218|20=>267|21=>268|22=>269|23=>270|24=>271|25=>272|26=>273|27=>274|46=>284|47=>251|48=>252|49=>285|50=>286|57=>290|n=>n,fun|22=>230|24=>143|25=>284|3=>3|39=>222|0=>0|53=>104|55=>82|4=>4|46=>304|45=>303|50=>156|5=>5|9=>9|66=>339|70=>342|76=>356|77=>357|n=>n,fun|n=>n⟩
def ain:SlLaysF0.n6 prog XE:={
 mixed:=dC
 f6:=⟨f189.name,by decide,func189.trans (gD cu dC)⟩
 f14:=⟨f237.name,by decide,func237.trans (gD cu dC)⟩
 f15:=func157.trans (gD cu dC)
 f20:=⟨f267.name,by decide,func267.trans (gD cu dC)⟩
 f21:=⟨f268.name,by decide,func268.trans (gD cu dC)⟩
 f22:=⟨f269.name,by decide,func269.trans (gD cu dC)⟩
 f23:=⟨f270.name,by decide,func270.trans (gD cu dC)⟩
 f24:=⟨f271.name,by decide,func271.trans (gD cu dC)⟩
 f25:=⟨f272.name,by decide,func272.trans (gD cu dC)⟩
 f26:=⟨f273.name,by decide,func273.trans (gD cu dC)⟩
 f27:=⟨f274.name,by decide,func274.trans (gD cu dC)⟩
 f28:=func217.trans (gD cu dC)
 f29:=func218.trans (gD cu dC)
 f46:=⟨f284.name,by decide,func284.trans (gD cu dC)⟩
 f47:=func251.trans (gD cu dC)
 f48:=func252.trans (gD cu dC)
 f49:=⟨f285.name,by decide,func285.trans (gD cu dC)⟩
 f50:=⟨f286.name,by decide,func286.trans (gD cu dC)⟩
 f57:=⟨f290.name,by decide,func290.trans (gD cu dC)⟩
 t0:=underlying0
 a0:=isAgg0
 z0:=sizeOf0
 v0:=zeroValue0
 t3:=vP
 a3:=isAgg3
 z3:=sizeOf3
 v3:=zeroValue3
 t4:=underlying4
 a4:=isAgg4
 z4:=sizeOf4
 v4:=zeroValue4
 t5:=yU
 a5:=isAgg5
 z5:=sizeOf5
 v5:=zeroValue5
 t9:=za
 a9:=isAgg9
 z9:=sizeOf9
 v9:=zeroValue9
 t22:=underlying230
 a22:=isAgg230
 z22:=sizeOf230
 v22:=zeroValue230
 t25:=underlying284
 a25:=isAgg284
 z25:=sizeOf284
 v25:=zeroValue284
 t39:=underlying222
 a39:=isAgg222
 z39:=sizeOf222
 v39:=zeroValue222
 t45:=underlying303
 a45:=isAgg303
 z45:=sizeOf303
 v45:=zeroValue303
 t46:=underlying304
 a46:=isAgg304
 z46:=sizeOf304
 v46:=zeroValue304
 t50:=underlying156
 a50:=isAgg156
 z50:=sizeOf156
 v50:=zeroValue156
 t53:=underlying104
 a53:=isAgg104
 z53:=sizeOf104
 v53:=zeroValue104
 t55:=underlying82
 a55:=isAgg82
 z55:=sizeOf82
 v55:=zeroValue82
 t66:=underlying339
 a66:=isAgg339
 z66:=sizeOf339
 v66:=zeroValue339
 t70:=underlying342
 a70:=isAgg342
 z70:=sizeOf342
 v70:=zeroValue342
 t76:=underlying356
 a76:=isAgg356
 z76:=sizeOf356
 v76:=zeroValue356
 t77:=underlying357
 a77:=isAgg357
 z77:=sizeOf357
 v77:=zeroValue357}
def Uo:Ren:=⟨fun|125=>157|128=>217|129=>218|n=>n,fun|46=>222|3=>3|51=>104|53=>82|4=>4|5=>5|9=>9|n=>n,fun|n=>n⟩
def bitsLen:Lays.n125 prog Uo:={
 mixed:=dC
 f125:=func157.trans (gD cu dC)
 f128:=func217.trans (gD cu dC)
 f129:=func218.trans (gD cu dC)
 t3:=vP
 a3:=isAgg3
 z3:=sizeOf3
 v3:=zeroValue3
 t4:=underlying4
 a4:=isAgg4
 z4:=sizeOf4
 v4:=zeroValue4
 t5:=yU
 a5:=isAgg5
 z5:=sizeOf5
 v5:=zeroValue5
 t9:=za
 a9:=isAgg9
 z9:=sizeOf9
 v9:=zeroValue9
 t46:=underlying222
 a46:=isAgg222
 z46:=sizeOf222
 v46:=zeroValue222
 t51:=underlying104
 a51:=isAgg104
 z51:=sizeOf104
 v51:=zeroValue104
 t53:=underlying82
 a53:=isAgg82
 z53:=sizeOf82
 v53:=zeroValue82}
theorem xk{α β:Type}{f:α->List β}{k:Nat}(a:∀x,(f x).n=k)(l:List α):(l.flatMap f).n=l.n*k:=by induction l<;>grind
theorem flat_get{α β:Type}{f:α->List β}{k:Nat}(c:∀x,(f x).n=k)(l:List α){i:Nat}(hi:i<l.n){j:Nat}(b:j<k):(l.flatMap f)[i*k+j]?=(f l[i])[j]?:=by induction l generalizing i with|nil=>simp at hi|cons a l ih=>rw[BF];cases i<;>grind
def Uq(u:rC):List c7:=(cL 7 (kV u)).t
theorem ED(u:rC):(Uq u).n=7:=by rfl
def Tf(l:List rC):List c7:=l.flatMap Uq
theorem agA(u:rC):∀v∈Uq u,v.oneCell'=cx:=by grind[oE,ug,Array.all_eq_true_iff_forall_mem,Uq]
instance in5c214 :Inhabited rC:=⟨mu⟩
theorem Mo{α:Type}[Inhabited α]{f:α->List c7}{k:Nat}(b:∀x,(f x).n=k)(a:0<k)(d:Array α):(Sort.flatK f k d).t=d.t.flatMap f:=by apply xK;intro t;by_cases c:t<d.s*k;grind[div_lt_iff_lt_mul,mod_lt,div_add_mod,Nat.mul_comm,flat_get,Sort.flatK];grind[Array.length_toList,Sort.size_flatK,xk]
section
open Go.Sort
theorem abe{g:Nat}(h:w.ownsRow base e z (bX (cu ⟨g,0,cw⟩) n cap) n xs)(F:gE)(i:F.t=xs):Holds id w g 0 F:=by
 intro j d;have a:j<xs.n:=by grind
 have hc:=h.cells (g:=g) ae j xs[j] (jE a);rw[show(⟨g,0,cw⟩:Addr).add j=⟨g,j,cw⟩ from by grind[Addr.add]] at hc;rw[oQ,getElem!_pos F j d];refine⟨by grind,?_⟩;rcases h.2 with⟨c,_⟩|⟨f,b,cur,c,_,k,_⟩<;>grind[World.frozen?]
theorem XF{g:Nat}{c:List c7}{os:Array Obj}(h:w.ownsRow base e z (bX (cu ⟨g,0,cw⟩) n cap) n xs)(F:gE)(l:F.t=c)(s:c.n=xs.n):
 (grow (putRow id (Sort.ahead w m) g 0 F) os).ownsRow base e z (bX (cu ⟨g,0,cw⟩) n cap) n c/\w.grownBy (grow (putRow id (Sort.ahead w m) g 0 F) os) (cu g):=by have b:=h.1;rcases h.2 with⟨a,_⟩|⟨v,d,cur,a,p,q,f,i,j,x⟩;cases a;(cases a;have r:g<w.h.s:=(rN.1 q).1;have o:F.s=n*z:=by grind);have t:n*z<=cap*z:=IW z f;refine⟨⟨by rw[s,b],.inr ⟨g,cap,putCells id 0 F cur,ae,p,?_,f,i,by simp[putCells,j],?_⟩⟩,⟨ae,ae,ae,by simp,λk y u=>?_⟩⟩;grind[heap_grow_old,putRow,mapBlock,Sort.ahead,onCells];rw[<-l];apply xK;grind[putCells];grind[heap_grow_old,putRow,mapBlock,Sort.ahead]
end
def Hd(a b:Nat):Int:=if a<b then -1 else if b<a then 1 else 0
section
attribute[local irreducible]wpList Code.wp Calls Oper.wp wpAnyH
def abf(a:Nat)(w:cS):CP_ 238 #[bU ct a] w λe w'=>e=cj (bZ cy)/\w=w':=by go_enter func238,ntmps238;go_wp2;go_ret;exact⟨by simp,ae⟩
def ad1(a b:Nat)(w:cS):CP_ 191 #[bU ct a,bU ct b] w λe w'=>e=cj (bU cq (Hd a b))/\w=w':=by
 go_enter func191,ntmps191;go_wp2_with (go_at_call 238;refine(abf _ _).mono ?_;rintro e W ⟨rfl,rfl⟩);all_goals go_ret
 all_goals(refine⟨gD (λx=>Ending.returned (bU cq x)) ?_,ae⟩;unfold Hd)
 rw[df cN];omega;omega
theorem jN.aih{D b:Nat}{t:dU}{v:Dv}(h:jN w D v)(d:jX b w w')(g:iA w b=cu t)(_:gV t=cy)(c:lS t=cy∨b∉oK w D):jN w' D v:=by
 have⟨l,hl⟩:=h.open;have a:b∉l:=by rcases c with a|a;intro f;have⟨u,hu,c⟩:=hl.ty b f;grind;rw[hl.oK] at a;exact a
 exact(hl.pY (qT.rS (l:=[b]) d (eN _) aY) (λk e=>⟨hl.lt k e,by grind⟩)).shut
theorem gU(D:Nat)(v:Dv):lO (cu D) (λ_ w=>jN w D v):=
 ⟨λh a=>jN.cP h a,λh _=>h,λh _=>h,fun {B w w' b t} h _ a ht ho hd=>jN.aih h a ht ho (hd.imp id λf=>f D ae),fun {B w D'} h e=>by grind[adP]⟩
def ad2(D:Nat)(d:Dv)(ho:d.ops<=1000000000)(w:cS)(a:jN w D d):CP_ 226 #[bW (cu ⟨D,0,cw⟩)] w λe w'=>e=cj (bU cq (gW d).2)/\jN w' D (gW d).1/\Fr (cu D) [] w w':=by have⟨l,hl⟩:=a.open;exact(adv D d l ho w hl).mono λe w' h=>⟨h.1,h.2.shut,h.2.fr hl []⟩
def ad3(D:Nat)(d:Dv)(ho:d.ops<=1000000000)(i:Int)(s:cV)(c:j0 s)(A:gE)(b:A=cL 128 (dg s))(w:cS)(a:jN w D d):CP_ 227 #[bW (cu ⟨D,0,cw⟩),bU cq i,bV A] w λe w'=>e=cj (bU cq (iq d i s).2)/\jN w' D (iq d i s).1/\Fr (cu D) [] w w':=by have⟨l,hl⟩:=a.open;exact(adt D d l ho i s c A b w hl).mono λe w' h=>⟨h.1,h.2.shut,h.2.fr hl []⟩
def ahI(D:Nat)(d:Dv)(i:Int)(hi:fh i)(w:cS)(a:jN w D d):CP_ 165 #[bW (cu ⟨D,0,cw⟩),bU cq i] w λe w'=>∃A,e=cj (cg #[bV A,bU cq (ik d i).2.2])/\A=cL 128 (dg (ik d i).2.1)/\jN w' D (ik d i).1/\Fr (cu D) [] w w':=by have⟨l,hl⟩:=a.open;exact(agc D d l i hi w hl).mono λe w' h=>by have⟨A,h1,h2,h3⟩:=h;exact⟨A,h1,h2,h3.shut,h3.fr hl []⟩
theorem J8(d:Dv):(gW d).1.ops<=d.ops+1:=by grind[gW,fC,xe]
def eY(d:Dv)(u:rC):Dv×Int:=match lK u with
 |none=>(d,61)
 |some b=>
  if(gW d).2≠0 then gW d else
  if(iq (gW d).1 ((u.lT%4:Nat):Int) b).2≠0 then iq (gW d).1 ((u.lT%4:Nat):Int) b else
  gW (iq (gW d).1 ((u.lT%4:Nat):Int) b).1
def Mp(D:Nat)(d:Dv)(F:d.ops<=999999000)(u:rC)(A:oP u)(w:cS)(a:jN w D d):CP_ 170 #[bW (cu ⟨D,0,cw⟩),bV (cL 7 (kV u))] w λe w'=>e=cj (bU cq (eY d u).2)/\jN w' D (eY d u).1/\Fr (cu D) [] w w':=by
 obtain⟨U,E⟩:=yB (cL 7 (kV u));have p:=cz λw=>Fl u A w;have t:=cz λw=>Ul u w;rw[<-E.o] at p t|-;clear A;have S:=St.start w (cu D) [] (gU D d) a;clear a;have s:=cz λw a=>ad2 D d cN w a;obtain⟨k,y⟩:=fP (u.lT%4);rw[<-y] at t;cases c:lK u with
 |none=>
  rw[c,show gi 61 (cw:Option cV)=61 from rfl] at p;have l:Hid (eY d u=(d,61)):=cz (by unfold eY;rw[c]);go_enter func170,ntmps170
  go_wp2_with first|(go_at_call 225;refine(p.o _).mono ?_;rintro e W ⟨B,rfl,j,c⟩;have v:=cz j;replace S:=S.cP c;clear j c)|refine fL ?_|refine fg λW S=>?_
  go_ret;exact⟨by rw[l.o];rfl,by rw[l.o];exact S.x,S.fr⟩
 |some b=>
  have r:j0 b:=by
   unfold lK at c;split at c
   . cases c;exact Uk u
   . cases c
  rw[c,show gi 61 (cu b)=0 from rfl,show(cu b).getD ff=b from rfl] at p;have l:Hid (eY d u=if(gW d).2≠0 then gW d else if(iq (gW d).1 (k:Int) b).2≠0 then iq (gW d).1 (k:Int) b else gW (iq (gW d).1 (k:Int) b).1):=cz (by unfold eY;rw[c,y]);have h:=J8 d;rcases hfl:gW d with⟨q,c1⟩;rw[hfl] at s l h;simp only at h;have o:=zY q (k:Int) b;rcases hwr:iq q (k:Int) b with⟨d2,c2⟩;rw[hwr] at o;simp only[hwr] at l;simp only at o;have z:=cz λB j w a=>ad3 D q cN (k:Int) b r B j w a;rw[hwr] at z;have C:=cz λw a=>ad2 D d2 cN w a;clear y c hfl hwr h o F r;go_enter func170,ntmps170;by_cases m:c1=0
  case neg=>
   have g:(c1 !=0)=cx:=by simpa using m
   have f:Hid (eY d u=(q,c1)):=cz (by rw[l.o];simp[m])
   go_wp2_with first|(go_at_call 225;refine(p.o _).mono ?_;rintro e W ⟨B,rfl,j,c⟩;have v:=cz j;replace S:=S.cP c;clear j c)|(go_at_call 226;refine(s.o _ S.x).mono ?_;rintro e W ⟨rfl,i,h⟩;replace S:=S.call h (λ_ e=>e) eQ (gU D q) (λ_ _=>i);clear i h)|refine fL ?_|refine fg λW S=>?_
   go_ret;exact⟨by rw[f.o];rfl,by rw[f.o];exact S.x,S.fr⟩
  subst m
  go_upto_region 7 with(first|(go_at_call 225;refine(p.o _).mono ?_;rintro e W ⟨B,rfl,j,c⟩;have v:=cz j;replace S:=S.cP c;clear j c)|(go_at_call 226;refine(s.o _ S.x).mono ?_;rintro e W ⟨rfl,i,h⟩;replace S:=S.call h (λ_ e=>e) eQ (gU D q) (λ_ _=>i);clear i h)|refine fL ?_|refine fg λW S=>?_)
  refine eu S dC λW S=>?_;refine dh 0 _ ?_;refine dh 1 (bV U) ?_;refine dh 3 (bV B) ?_;refine kI 2 λK x=>?_
  go_wp2_with fail
  refine je S (t.o _) λW S=>?_;refine gq x ?_;refine kI 4 λK x=>?_
  go_wp2_with fail
  refine(z.o B v.o _ S.x).mono ?_;rintro e W ⟨rfl,i,h⟩;replace S:=S.call h (λ_ e=>e) eQ (gU D d2) (λ_ _=>i);clear i h;refine gq x ?_;refine dh 5 _ ?_;refine qx ?_;by_cases n:c2=0
  case neg=>
   have g:(c2 !=0)=cx:=by simpa using n
   have f:Hid (eY d u=(d2,c2)):=cz (by rw[l.o];simp[n]);go_wp2;go_ret;exact⟨by rw[f.o];rfl,by rw[f.o];exact S.x,S.fr⟩
  subst n;have f:Hid (eY d u=gW d2):=cz (by rw[l.o];simp)
  go_wp2_with (go_at_call 226;refine(C.o _ S.x).mono ?_;rintro e W ⟨rfl,i,h⟩;replace S:=S.call h (λ_ e=>e) eQ (gU D (gW d2).1) (λ_ _=>i);clear i h)
  go_ret;exact⟨by rw[f.o];rfl,by rw[f.o];exact S.x,S.fr⟩
def abg(x y:rC)(W:cS):CP_ 190 #[bV (Uq x).toArray,bV (Uq y).toArray] W λe w'=>e=cj (bU cq (Hd x.lT y.lT))/\∃q b,w'=Sort.grow (W.drewN q) b:=by
 have e1:(Uq x).toArray=cL 7 (kV x):=by simp[Uq]
 have e2:(Uq y).toArray=cL 7 (kV y):=by simp[Uq]
 rw[e1,e2,Mi,Mi];have a:=cz λw=>ad1 x.lT y.lT w;generalize Hd x.lT y.lT=r at a|-;go_enter func190,ntmps190;go_wp2_with (refine(a.o _).mono ?_;rintro e w' ⟨rfl,rfl⟩);go_ret;exact⟨ae,0,_,by rw[Sort.alloc_eq_grow,Sort.alloc_eq_grow,Sort.grow_grow];rfl⟩
def oZ(l:List rC):List rC:=(Sort.insertionSort (ltOf λx y:rC=>Hd x.lT y.lT) l.toArray 0 l.toArray.s).t
theorem ad4:Sort.SWO (ltOf λx y:rC=>Hd x.lT y.lT):=by
 have h:∀x y:rC,ltOf (λx y:rC=>Hd x.lT y.lT) x y=decide (x.lT<y.lT):=by grind[ltOf,Hd]
 refine⟨λx=>?_,λx y z=>?_,λx y z=>?_⟩<;>simp only[h,qS,QV]<;>omega
theorem sF(l:List rC):(oZ l).Perm l:=by
 have h:=(Sort.insertionSort_holds ad4 l.toArray 0 l.toArray.s (gw _) (eN _)).1;have a:=h.1;have b:=h.2.2;unfold oZ;have e1:∀d:Array rC,d.extract 0 d.s=d:=λd=>by simp
 grind
def Zn(n:Nat)(W:cS)(h:n<=12):CP_ 157 #[bU ct n] W λe w'=>(∃l:Int,e=cj (bU cq l))/\w'=W:=
 (Any.bits_Len bitsLen n W cN cN).mono λ_ _ ⟨he,hw⟩=>⟨⟨_,he⟩,hw⟩
def agB(f:c7)(w:cS):CP_ 267 #[bX cw 0 0,bU cq 0,bU cq 0,f] w λe w'=>e=cj (cg #[])/\w=w':=by go_enter func267,ntmps267;go_wp2_with fail;go_loopw [8] (λi wr=>i=bU cq 1/\w=wr) (λ_ _=>0);exact aE;obtain⟨rfl,rfl⟩:=hrel;go_wp2;go_end0;exact aE
def agC(f:c7)(n:Int)(w:cS):CP_ 237 #[bX cw 0 0,bU cq 0,bU cq 0,bU cq n,f] w λe w'=>e=cj (cg #[])/\w=w':=by go_enter func237,ntmps237;go_wp2_with fail;go_loopw [1,2] (λa b wr=>a=bU cq 0/\b=bU cq 0/\w=wr) (λ_ _ _=>0);exact⟨ae,ae,ae⟩;obtain⟨rfl,rfl,rfl⟩:=hrel;go_wp2_with (refine(agB _ _).mono ?_;rintro e w' ⟨rfl,rfl⟩);refine iH (vO ae _ _ _) ae ⟨ae,ae⟩
def ad5(f:c7)(w:cS):CP_ 189 #[bX cw 0 0,f] w λe w'=>e=cj (cg #[])/\w=w':=by go_enter func189,ntmps189;go_wp2_with (first|(refine(Zn 0 _ cN).mono ?_;rintro e w' ⟨⟨l,rfl⟩,rfl⟩)|(refine(agC _ _ _).mono ?_;rintro e w' ⟨rfl,rfl⟩));go_end0;exact aE
theorem XG(S:St w0 d l L O X w)(k:Nat)(q:O[k]?=cu ⟨143,7,v,us.n,Tf us⟩)(t:us.n<=12):
 CP_ 189 #[v,.func (.func 190) #[] #[]] w λe w'=>e=cj (cg #[])/\St w0 d l L (O.set k ⟨143,7,v,us.n,Tf (oZ us)⟩) X w':=by have ho:=S.uS q;have f:=(sF us).length_eq;rcases ho.2 with⟨j,i⟩|⟨g,cap,cur,j,C,B,_⟩;(have a:v=bX cw 0 0:=j;subst a;have s:us=[]:=yr i;subst s;refine(ad5 _ w).mono λe w' h=>?_;obtain⟨p,rfl⟩:=h;refine⟨p,?_⟩;have e1:O.set k ⟨143,7,bX cw 0 0,([]:List rC).n,Tf (oZ [])⟩=O:=by rw[show oZ []=[] from Perm.eq_nil (sF [])];apply xK;grind);grind;(have a:v=bX (s_ g 0) us.n cap:=j;subst a;have z:(Sort.flatK Uq 7 us.toArray).t=Tf us:=by grind[Mo,ED,Tf]);(have o:(Sort.flatK Uq 7 (Sort.insertionSort (ltOf λx y:rC=>Hd x.lT y.lT) us.toArray 0 us.toArray.s)).t=Tf (oZ us):=by rw[Mo ED cN];rfl);have A:Sort.HoldsK Uq 7 w g 0 us.toArray:=abe ho _ z;have r:∀args w,(callFunc 190 args).run prog w=.ok (.enter 190 args) w:=enters_of func190 dC ae;have b:CmpLays prog 190 #[] Uq 7 (λx y=>Hd x.lT y.lT) g 0 us.toArray.s w:=λ_ _ _ _ x y=>abg x y _;have c:=AnyQ.slices_SortFunc_small ain 7 isAgg143 sizeOf143 Uq ED agA (λx y=>Hd x.lT y.lT) 190 #[] g 0 cap us.toArray w r b A (rN.1 B).1 cN Zn;refine Calls.mono (show CP_ 189 #[bX (s_ g 0) us.n cap,.func (.func 190) #[] #[]] w _ from c) λe w' h=>?_;have⟨p,n,os,hw⟩:=h;have i:=XF (m:=n) (os:=os) ho _ o (by rw[show(Tf (oZ us)).n=_ from xk ED _,show(Tf us).n=_ from xk ED _,f]);have u:w'=Sort.grow (Sort.putRow id (Sort.ahead w n) g 0 (Sort.flatK Uq 7 (Sort.insertionSort (ltOf λx y:rC=>Hd x.lT y.lT) us.toArray 0 us.toArray.s))) os:=hw;rw[u];exact⟨p,S.grow q i.2 i.1 ae aD⟩
def rX(x:Dv×List rC)(i:Nat):Dv×List rC:=
 if(ik x.1 (i:Int)).2.2≠0 then((ik x.1 (i:Int)).1,x.2) else
 match kb (ik x.1 (i:Int)).2.1 with
 |none=>((ik x.1 (i:Int)).1,x.2)
 |some u=>if u.lT%4=i then((ik x.1 (i:Int)).1,x.2++[u]) else((ik x.1 (i:Int)).1,x.2)
def kj(d:Dv)(k:Nat):Dv×List rC:=(range k).foldl rX (d,[])
def zd(d:Dv):Dv×List rC:=((kj d 4).1,oZ (kj d 4).2)
theorem DK(d:Dv)(k:Nat):kj d (k+1)=rX (kj d k) k:=by grind[kj,range_succ]
theorem RG(x:Dv×List rC)(i:Nat):(rX x i).2.n<=x.2.n+1:=by grind[rX]
theorem Gp(d:Dv)(k:Nat):(kj d k).2.n<=k:=by induction k<;>grind[kj,DK,RG]
def agD:(prog.info? 143).map (λi=>(i.zero,i.s,i.bytes))=cu (cu (bV #[bU ct 0,bU ct 0,bU cq 0,bU ct 0,bU .u32 0,bU cq 0,bU cq 0]),7,56):=dC
def Zm:xi prog 230 143 7 56:=⟨underlying230,_,agD,ae,cN⟩
theorem XH(l m:List rC):Tf (l++m)=Tf l++Tf m:=by grind[Tf]
theorem agE(u:rC):Tf [u]=(cL 7 (kV u)).t:=by rfl
theorem RH(D:Nat)(d:Dv)(w:cS)(a:jN w D d):CP_ 145 #[bW (cu ⟨D,0,cw⟩)] w λe w'=>∃v,e=cj v/\w'.ownsRow w.h.s 143 7 v (zd d).2.n (Tf (zd d).2)/\jN w' D (zd d).1/\Fr (cu D) [] w w':=by
 have S:=(St.start w (cu D) [] (gU D d) a).Jl 143 7 rfl rfl;clear a;have S:=cz S;go_enter func145,ntmps145;go_wp2_with fail;go_loopw [3,9] (λv i wr=>∃k:Nat,k<=4/\i=bU cq k/\Hid (St w (cu D) [] [] [⟨143,7,v,(kj d k).2.n,Tf (kj d k).2⟩] (λ_ w=>jN w D (kj d k).1) wr)) (λ_ i _=>4-(intOf i).m);exact⟨0,cN,rfl,S⟩;clear S;obtain⟨k,Q,rfl,hS⟩:=hrel;by_cases O:k<4
 . have S:=hS.o;clear hS;have f:=Gp d k;have b:=cz (DK d k);generalize kj d k=x at S b f;obtain⟨q,us⟩:=x;simp only at S f;have G:=cz λw a=>ahI D q (k:Int) ⟨cN,cN⟩ w a;have r:rX (q,us) k=if(ik q (k:Int)).2.2≠0 then((ik q (k:Int)).1,us) else match kb (ik q (k:Int)).2.1 with
    |none=>((ik q (k:Int)).1,us)
    |some u=>if u.lT%4=k then((ik q (k:Int)).1,us++[u]) else((ik q (k:Int)).1,us):=rfl
   have B:=Je S.x.ok (k:Int);rcases hrd:ik q (k:Int) with⟨t,s,c⟩;rw[hrd] at G r B;simp only at r B;have p:=cz r;clear r hrd;by_cases hc:c=0;case neg=>(have g:(c !=0)=cx:=by simpa using hc);have z:Hid (kj d (k+1)=(t,us)):=cz (by rw[b.o,p.o,df hc]);go_wp2_with (first|(refine(G.o _ S.x).mono ?_;rintro e W ⟨A,rfl,j,l,y⟩;have E:=cz j;replace S:=S.call y (λ_ e=>e) eQ (gU D t) (λ_ _=>l);clear l j)|refine fg λW S=>?_);go_roundw;exact⟨k+1,cN,by go_num,by rw[z.o];exact cz S.pop⟩;exact pR
   subst hc;have C:=cz λw=>RF s B w;obtain⟨K,L⟩:(kb s).isSome=(kb s).isSome/\True:=⟨rfl,iG⟩;clear K L;cases I:kb s with
   |none=>rw[I,show(cw:Option rC).isSome=cy from rfl] at C;have z:Hid (kj d (k+1)=(t,us)):=cz (by rw[b.o,p.o,cZ eQ,I]);go_wp2_with (first|(refine(G.o _ S.x).mono ?_;rintro e W ⟨A,rfl,j,l,y⟩;have E:=cz j;replace S:=S.call y (λ_ e=>e) eQ (gU D t) (λ_ _=>l);clear l j;rw[<-E.o] at C)|(refine(C.o _).mono ?_;rintro e W ⟨U,rfl,F,M⟩;have J:=cz F;replace S:=S.cP M;clear F)|refine fL ?_|refine fg λW S=>?_);go_roundw;exact⟨k+1,cN,by go_num,by rw[z.o];exact cz S.pop.pop⟩;exact pR
   |some u=>
    (rw[I,show(cu u).isSome=cx from rfl,show(cu u).getD mu=u from rfl] at C;obtain⟨U,F⟩:=fP (cL 7 (kV u));have H:=cz λw=>Ul u w;rw[<-F] at H;have J:=cz F;have o:=cz λw=>(C.o w).mono λe w' h=>show e=cj (cg #[bV U,bZ cx])/\dR w w' by grind);clear F C;by_cases n:u.lT%4=k
    . have z:Hid (kj d (k+1)=(t,us++[u])):=cz (by rw[b.o,p.o,cZ eQ,I];simp only;rw[df n]);rw[n] at H;clear n;go_wp2_with (first|(first|refine jj 27 143 7 S 0 J.o ?_)|(refine(G.o _ S.x).mono ?_;rintro e W ⟨A,rfl,j,l,y⟩;have E:=cz j;replace S:=S.call y (λ_ e=>e) eQ (gU D t) (λ_ _=>l);clear l j;rw[<-E.o] at o)|refine je S (o.out _) λW S=>?_|refine je S (H.o _) λW S=>?_|refine tA S 0 rfl 0 rfl rfl rfl rfl Zm (ug _) CK xZ λg cap W S=>?_|refine fL ?_|refine fg λW S=>?_);go_roundw;exact⟨k+1,cN,by go_num,by rw[z.o,ji,XH,agE];exact cz S.pop.pop.pop⟩;exact pR
    . (have z:Hid (kj d (k+1)=(t,us)):=cz (by rw[b.o,p.o,cZ eQ,I];simp only;rw[cZ n]);have g:(((u.lT%4:Nat):Int)==(k:Int))=cy:=by rw[lR];omega);generalize u.lT%4=m at H g n;go_wp2_with (first|(first|refine jj 27 143 7 S 0 J.o ?_)|(refine(G.o _ S.x).mono ?_;rintro e W ⟨A,rfl,j,l,y⟩;have E:=cz j;replace S:=S.call y (λ_ e=>e) eQ (gU D t) (λ_ _=>l);clear l j;rw[<-E.o] at o)|refine je S (o.out _) λW S=>?_|refine je S (H.o _) λW S=>?_|refine fL ?_|refine fg λW S=>?_);go_roundw;exact⟨k+1,cN,by go_num,by rw[z.o];exact cz S.pop.pop⟩;exact pR
 . obtain rfl:k=4:=cN;have S:=hS.o;have f:=Gp d 4;clear hS;go_wp2_with (refine(XG S 0 rfl (iE f cN)).mono ?_;rintro e W ⟨rfl,hS⟩;clear S;have S:=hS;clear hS);go_ret;have N:=(sF (kj d 4).2).length_eq;refine⟨_,rfl,?_,S.x,S.fr⟩;show World.ownsRow _ _ _ _ _ (oZ (kj d 4).2).n (Tf (oZ (kj d 4).2));rw[N];exact S.o0
def fW(d:Dv):Dv×Option rC:=((zd d).1,(zd d).2.getLast?)
def agF(l:List rC)(hi:i<l.n){A:gE}(a:A=cL 7 (kV l[i])):∀j,j<7->(Tf l)[i*7+j]?=A[j]?:=by intro j b;unfold Tf;rw[flat_get ED l hi b,a];simp[Uq]
theorem ad6(h:w.ownsRow base e z v 0 xs):v=bX cw 0 0∨∃g c,v=bX (cu ⟨g,0,cw⟩) 0 c:=by rcases h.2 with⟨a,_⟩|⟨g,cap,cur,a,_⟩<;>grind
def He(D:Nat)(d:Dv)(w:cS)(a:jN w D d):CP_ 83 #[.pointer (some ⟨D,0,none⟩)] w λe w'=>∃U,e=.returned (.tuple #[.agg U,.bool (fW d).2.isSome])/\U=cL 7 (kV ((fW d).2.getD mu))/\jN w' D (fW d).1/\Fr (some D) [] w w':=by
 have S:=St.start w (some D) [] (gU D d) a;clear a;have b:=cz λw a=>RH D d w a;rcases hl:zd d with⟨p,us⟩;rw[hl] at b;simp only at b;have y:us.length<=4:=by have F:=(sF (kj d 4).2).length_eq;have G:=Gp d 4;have r:(zd d).2=oZ (kj d 4).2:=rfl;rw[hl] at r;simp only at r;rw[r];omega
 have m:Hid (fW d=(p,us.getLast?)):=cz (by unfold fW;rw[hl]);clear hl;go_enter func83,ntmps83;by_cases q:us=[];subst q;rotate_left;obtain⟨n,z⟩:∃n,us.length=n+1:=⟨us.length-1,by have:=BH.2 q;omega⟩;obtain⟨u,B⟩:∃u,us[n]?=some u:=⟨us[n]'cN,jE cN⟩;have x:us.getLast?=some u:=by rw[getLast?_eq_getElem?,z];exact B
 rw[x] at m;obtain⟨U,t⟩:=fP (cL 7 (kV u));have C:=cz t;have l:=cz (agF us (i:=n) cN (A:=U) jv);rw[z] at b;clear t x B q;have E:IntKind.i64.wrap ((n:Int)+1-1)=(n:Int):=by rw[kS _ cN];omega
 all_goals
  go_wp2_with first|(go_at_call 145;refine(b.o _ S.x).mono ?_;rintro e W ⟨v,rfl,ho,h,k⟩;have f:=S.uh k (λ_ e=>e) eQ (gU D p) (λ_ _=>h) ho rfl rfl;clear S;have S:=f;clear f h k ho;have s:v=.slice none 0 0∨∃g c,v=.slice (s_ g 0) 0 c:=ad6 S.o0;rcases s with rfl|⟨g,c,rfl⟩)|(go_at_call 145;refine(b.o _ S.x).mono ?_;rintro e W ⟨v,rfl,ho,h,k⟩;have f:=S.uh k (λ_ e=>e) eQ (gU D p) (λ_ _=>h) ho rfl rfl;clear S;have S:=f;clear f h k ho;have s:∃g c,v=.slice (s_ g 0) (n+1) c:=DI S.o0 (succ_pos n);obtain⟨g,c,rfl⟩:=s)|((with_reducible refine xz 16 143 15 ?_);refine ajJ (o:=0) S.q0 (j:=n) (lt_succ_self n) (by rw[oQ];rfl) (vu C) l.o Fk ?_)|refine fg λW S=>?_|(refine mA ?_;exact⟨_,by rw[m.o];rfl,by rw[m.o];rfl,by rw[m.o];exact S.x,S.fr⟩)
def ze(q:cQ):Bool:=decide (q≠cX)&&ij q
def Ur(q:cQ)(A:gE)(c:A=cL 3 (dF q))(w:cS):tf 236 #[bV A] w (bZ (ze q)):=by have e:=cz λw=>yK q w;have⟨b,hb⟩:=dI (decide (q=cX));have d:=F9 q cX b hb;rw[dk c] at d e;have g:∀w,(binOp .neq 106 (bV A) (bV #[bU cq 0,bU ct 0,bU .u32 0])).run prog w=.ok (bZ !b) w:=d;clear d;have f:=cz c;clear c;have S:=qR w;cases b with|true=>have a:Hid (ze q=cy):=cz (by unfold ze;simp[l6 hb]);clear hb;go_enter func236,ntmps236;go_wp2_with (first|refine fL ?_|refine fg λW S=>?_);go_ret;exact⟨by rw[a.o];rfl,S.b⟩|false=>have a:Hid (ze q=ij q):=cz (by unfold ze;simp[yw hb]);clear hb;go_enter func236,ntmps236;go_wp2_with (first|(first|refine jj 7 106 1 S 0 f.o ?_)|refine je S (e.o _) λW S=>?_|refine fL ?_|refine fg λW S=>?_);go_ret;exact⟨by rw[a.o];rfl,S.b⟩
def ajR(p:cQ):List c7:=(cL 3 (dF p)).t
theorem zf(p:cQ):(ajR p).n=3:=by rfl
def kE(l:List cQ)(hi:i<l.n){A:gE}(a:A=cL 3 (dF l[i])):∀j,j<3->(iS l)[i*3+j]?=A[j]?:=by intro j b;unfold iS;rw[flat_get (f:=λp=>(cL 3 (dF p)).t) zf l hi b,a];simp
def tN(l:List cQ)(i:Nat):Bool:=ze (l.getD i cX)&& (decide (i=0)||nY (l.getD (i-1) cX) (l.getD i cX))
def ou(l:List cQ):Bool:=(range l.n).all (tN l)
theorem Qd{l:List cQ}(a:k<l.n)(h:tN l k=cy):ou l=cy:=by unfold ou;grind
theorem XI{l:List cQ}(h:∀k,k<l.n->tN l k=cx):ou l=cx:=by grind[ou]
theorem RI{l:List α}(a:k<l.n)(x:α):l.getD k x=l[k]:=by grind
theorem dP(h:c8 w e z v n xs):∃ao cap,v=bX ao n cap/\n<=cap/\(0<n->∃b o,ao=cu ⟨b,o,cw⟩):=by obtain⟨_,ao,cap,a,c,_,d⟩:=h;grind
theorem ySl{P:oN}{x:Nat}{SS:cS->Prop}{b o:Nat}(R:∀w,SS w->c8 w e z (bX (cu ⟨b,o,cw⟩) n cap) n xs)(r:j<n)(f:a.eval (.tmp x)=bW (cu ⟨b,o+j*z,cw⟩)){A:gE}(m:A.s=z)(p:∀i,i<z->xs[j*z+i]?=A[i]?)(c:kg P ty z)(d:Region.wanted ⟨cu dst,.load ty (.tmp x),t2,pp,af,gd⟩ (yielded ops a.tmps)=cx:=by kernel_rfl):YieldsIf P ops SS ⟨cu dst,.load ty (.tmp x),t2,pp,af,gd⟩ (bV A) a:=by
 have⟨⟨dd,hu,hd⟩,hi⟩:=c;have h:=yieldsIf_load_mid (P:=P) (S:=SS) (op:=⟨cu dst,.load ty (.tmp x),t2,pp,af,gd⟩) (ops:=ops) d ty (.tmp x) ae b _ f A.t dd (λw h=>by
  have⟨h1,ao,cap',h2,h3,h4,h5⟩:=R w h;obtain⟨g,o',k,l,rfl,q,hc⟩:=h5 cN;cases h2;intro i v s
  grind[cell_of_row]) hu hd jv
 omega
theorem Ar(l:List cQ)(v:c7)(w:cS)(J:l.n<=1000000000)(R:lk w v l):tf 244 #[v] w (bZ (ou l)):=by
 obtain⟨ao,cap,rfl,C,n⟩:=dP R;have R:=cz R;have n:=cz n;have S:=cz (qR w);go_enter func244,ntmps244;go_wp2_with fail;go_loopw [7] (λi wr=>∃k:Nat,k<=l.n/\i=bU cq k/\Hid ((∀j,j<k->tN l j=cx)/\St w cw [] [] [] (λ_ _=>True) wr)) (λi _=>l.n-(intOf i).m);exact⟨0,cN,ae,λj t=>absurd t (wQ _),S.o⟩;clear S;obtain⟨k,I,rfl,hS⟩:=hrel;by_cases a:k<l.n
 . obtain⟨b,o,rfl⟩:=n.o cN;have⟨hS,S⟩:=hS.o;have hS:=cz hS;have⟨q,hq⟩:=dI (l[k]);have⟨A,hA⟩:=fP (cL 3 (dF q));have e:=cz (kE l a (A:=A) amq);have u:=cz hA;have s:=cz (Ur q A hA);have c:tN l k=(ze q&& (decide (k=0)||nY (l.getD (k-1) cX) q)):=by unfold tN;rw[RI a,hq]
   have c:=cz c;clear hA hq;cases D:ze q with
   |false=>rw[D] at s c;go_upto_region 4 with(first|refine AD (R.o.cP S.b) a (vu u) e.o ?_|refine fg λW S=>?_);refine eu S dC λW S=>?_;refine dh 0 (bV A) ?_;refine kI 1 λK m=>?_;go_wp2_with fail;refine je S (s.o _) λW S=>?_;refine gq m ?_;refine dh 2 (bZ cx) ?_;refine dh 3 _ ?_;refine pQ 4 ?_;refine pQ 5 ?_;refine pQ 6 ?_;refine pQ 7 ?_;refine pQ 8 ?_;refine pQ 9 ?_;refine pQ 10 ?_;refine pQ 11 ?_;refine pQ 12 ?_;refine pQ 13 ?_;refine pQ 14 ?_;refine pQ 15 ?_;refine dh 16 (bZ cx) ?_;refine qx ?_;go_wp2;go_ret;exact⟨by rw[Qd a (by rw[c.o];rfl)];rfl,S.b⟩
   |true=>
    rw[D] at s c;by_cases f:k=0;have g:Hid (tN l k=cx):=cz (by rw[c.o];simp[f]);have x:=cz f;clear f;go_upto_region 4 with(first|refine AD (R.o.cP S.b) a (vu u) e.o ?_|refine fg λW S=>?_);refine eu S dC λW S=>?_;refine dh 0 (bV A) ?_;refine kI 1 λK m=>?_;go_wp2_with fail;(refine je S (s.o _) λW S=>?_;refine gq m ?_;refine dh 2 (bZ cy) ?_;refine dh 3 _ ?_;refine dh 4 _ ?_;refine gZ 5 (bZ cy) ae (Or.inl ⟨dC,λw E=>by have z:=x.o;go_simp⟩) ?_;refine dh 6 _ ?_;refine pQ 7 ?_;refine pQ 8 ?_;refine pQ 9 ?_;refine pQ 10 ?_;refine pQ 11 ?_;refine pQ 12 ?_;refine pQ 13 ?_;refine pQ 14 ?_;refine dh 15 (bZ cy) ?_;refine dh 16 (bZ cy) ?_;refine qx ?_;have d:∀j,j<k+1->tN l j=cx:=λj t=>by rcases Di.1 t with h|rfl;exact hS.o j h;exact g.o);rotate_left;have H:(k:Int)>0:=cN;obtain⟨k1,rfl⟩:∃k1,k=k1+1:=⟨k-1,cN⟩;have⟨p,hp⟩:=dI (l[k1]);have⟨B,hB⟩:=fP (cL 3 (dF p));have r:=cz (kE l (i:=k1) cN (A:=B) (by rw[hp];exact hB));have F:=cz hB;have⟨b2,hb2⟩:=dI (nY p q);have y:=cz λw=>PL p q w;rw[dk u.o,dk hB,hb2] at y;have g:Hid (tN l (k1+1)=b2):=cz jv;clear hB hp hb2 f;go_upto_region 4 with(first|refine AD (R.o.cP S.b) a (vu u) e.o ?_|refine fg λW S=>?_);refine eu S dC λW S=>?_;refine dh 0 (bV A) ?_;refine kI 1 λK m=>?_;go_wp2_with fail;refine je S (s.o _) λW S=>?_;refine gq m ?_;refine dh 2 (bZ cy) ?_;refine dh 3 _ ?_;refine dh 4 _ ?_;refine dh 5 (bZ cx) ?_;refine dh 6 _ ?_;refine dh 7 _ ?_;refine dh 8 _ ?_;refine gZ 9 (bU cq k1) ae (Or.inl ⟨dC,λw E=>by have z:IntKind.i64.wrap (k1:Int)=(k1:Int):=kS _ cN;go_simp⟩) ?_;refine gZ 10 (dE b (o+k1*3)) ae (Or.inl ⟨dC,λw E=>by have z:k1<l.n:=cN;go_simp⟩) ?_;refine gZ 11 (bV B) ae (ySl (λw h=>by obtain⟨_,S⟩:=h;exact R.o.cP S.b) (show k1<l.n by omega) ae (vu F) r.o fK) ?_;refine dh 12 (bV A) ?_;refine kI 13 λK m=>?_;go_wp2_with fail;refine je S (y.o _) λW S=>?_;refine gq m ?_;refine dh 14 (bZ !b2) ?_;refine dh 15 (bZ !b2) ?_;refine dh 16 (bZ !b2) ?_;refine qx ?_;rcases b2 with _|_
    . go_wp2;go_ret;exact⟨by rw[Qd a g.o];rfl,S.b⟩
    have d:∀j,j<k1+1+1->tN l j=cx:=λj t=>by rcases Di.1 t with h|rfl;exact hS.o j h;exact g.o
    all_goals
     have d:=cz (And.intro d S.pop);go_wp2;go_roundw
     case rel=>first|exact⟨k+1,cN,by go_num,d⟩|exact⟨k1+1+1,cN,by go_num,d⟩
     case measure=>exact pR
 . obtain rfl:k=l.n:=cN;have⟨hS,S⟩:=hS.o;have G:=cz (XI hS);clear hS;go_wp2;go_ret;exact⟨by rw[G.o];rfl,S.b⟩
def ad7(p:cQ)(s:Nat)(A:gE)(a:A=cL 3 (dF p))(w:cS):tf 154 #[bV A,bU ct s] w (bZ (jV p s)):=by rw[<-dk a];exact BW p s w
def o5(l:List cQ)(st:Nat):List cQ:=l.filter λq=>!jV q st
def jO(l:List cQ)(st:Nat):List cQ:=l.filter (jV · st)
def OM(l:List cQ)(v:c7)(st:Nat)(w:cS)(z:l.n<=1000000000)(R:lk w v l):
 CP_ 133 #[v,bU ct st] w λe w'=>∃a b,e=cj (cg #[a,b])/\il w' w.h.s a (o5 l st)/\il w' w.h.s b (jO l st)/\dR w w':=by
 obtain⟨ao,cap,rfl,s,f⟩:=dP R;have R:=cz R;have f:=cz f;have S:=cz (((qR w).Jl 106 3 ae ae).Jl 106 3 ae ae);go_enter func133,ntmps133;go_wp2_with fail;go_loopw [6,7,12] (λa b i wr=>∃k:Nat,k<=l.n/\i=bU cq k/\Hid (St w cw [] [] [⟨106,3,a,(o5 (l.take k) st).n,iS (o5 (l.take k) st)⟩,⟨106,3,b,(jO (l.take k) st).n,iS (jO (l.take k) st)⟩] (λ_ _=>True) wr)) (λ_ _ i _=>l.n-(intOf i).m);exact⟨0,cN,ae,S⟩;clear S;obtain⟨k,y,rfl,hS⟩:=hrel;by_cases c:k<l.n
 . obtain⟨b,o,rfl⟩:=f.o cN;have S:=hS.o;clear hS;have n:=zX (λq=>!jV q st) l c;have p:=zX (jV · st) l c;have u:(o5 (l.take k) st).n<=k:=iE (FW _ _) bj;have x:(jO (l.take k) st).n<=k:=iE (FW _ _) bj;have⟨q,hq⟩:=dI (l[k]);have⟨A,hA⟩:=fP (cL 3 (dF q));have d:=cz (kE l c (A:=A) amq);have r:=cz hA;have m:=cz (ad7 q st A hA);rw[hq] at n p;have h:Hid (o5 (l.take (k+1)) st=o5 (l.take k) st++if(!jV q st)=cx then [q] else []):=cz n;have j:Hid (jO (l.take (k+1)) st=jO (l.take k) st++if jV q st=cx then [q] else []):=cz p;clear n p hA hq;generalize o5 (l.take k) st=M at S h u;generalize jO (l.take k) st=N at S j x;cases t:jV q st with|false=>rw[t] at m h j;go_wp2_with (first|refine AD (R.o.cP S.b) c (vu r) d.o ?_|refine je S (m.o _) λW S=>?_|refine tA S 0 rfl 0 rfl rfl rfl rfl gX (dJ _) CK xZ λg cap W S=>?_|refine fL ?_|refine fg λW S=>?_);go_roundw;exact⟨k+1,cN,by go_num,by rw[h.o,j.o];simp only[Bool.not_false,oR,Lp,mq,wR];rw[ji,jk,qe];exact cz S.pop.pop⟩;exact pR|true=>rw[t] at m h j;go_wp2_with (first|refine AD (R.o.cP S.b) c (vu r) d.o ?_|refine je S (m.o _) λW S=>?_|refine tA S 0 rfl 1 rfl rfl rfl rfl gX (dJ _) CK xZ λg cap W S=>?_|refine fL ?_|refine fg λW S=>?_);go_roundw;exact⟨k+1,cN,by go_num,by rw[h.o,j.o];simp only[Bool.not_true,oR,Lp,mq,wR];rw[ji,jk,qe];exact cz S.pop.pop⟩;exact pR
 . obtain rfl:k=l.n:=cN;have S:=hS.o;rw[qq] at S;clear hS;go_wp2;go_ret2;exact⟨_,_,ae,S.o0,S.o1,S.b⟩
end
section
variable {P:oN}
variable {x:Nat}
def St.made(S:St w0 d l L O X w)(f:cur.s=cap*z)(c:cap<=maxLen)(a:gV e=cy)(b:lS e=cy):
 St w0 d l L (⟨e,z,bX (cu ⟨w.h.s,0,cw⟩) 0 cap,0,[]⟩::O) X (w.alloc (.cells cur e)):=
 S.iv ((gJ _ _).alloc (eN _) _) (World.ownsRow_made w cur cap (eN _) c f) a b
theorem J9(S:St w0 d l L O X w){r:Operand}(o:xi P ty e z by')(k:a.eval q=bU cq 0)(m:a.eval r=bU cq n)(s:by'*n<=281474976710656)(j:n<=maxLen)(c:gV e=cy)(f:lS e=cy)(h:∀g W,St w0 d l L (⟨e,z,bX (cu ⟨g,0,cw⟩) 0 n,0,[]⟩::O) X W->wpList P ops Q rest (a.put (cu dst) (bX (cu ⟨g,0,cw⟩) 0 n)) W):
 wpList P ops Q (⟨cu dst,.makeSlice ty q r,t2,p,af,cw⟩::rest) a w:=by have⟨hu,zv,hi,hz,h0⟩:=o;have⟨it,hi1,hz0,hz1,hz2⟩:=oG hi;have b:=run_make w ty e it zv hu hi1 hz0 cq cq 0 (n:Nat) cN cN jv bJ;simp only[tZ,hz1,Int.toNat_zero] at b;refine mC ae λK i=>?_;unfold Oper.wp execOp;simp only[lh,k,m,b,nW];exact i _ _ (h _ _ (S.made (by grind[madeCells]) j c f))
theorem CM(w:cS)(base:Nat)(t ty e:dU)(i:TypeInfo)(b:Nat)(f:P.underlying t=cu (.slice e))(hi:P.info? e=cu i)(v:c7)(n:Nat)(xs:List c7)(a:w.ownsRow base e b v n xs)(ao:Option Addr)(c:Nat):
 (Builtin.append_ #[t,t] ty #[v,bX ao 0 c]).run P w=.ok v w:=by rcases a.2 with⟨rfl,rfl⟩|⟨g,cap,cur,rfl,_,_,d,_⟩;cases ao<;>simp[Builtin.append_,yO f,sizeOf,typeInfo,hi,Builtin.lenOf,Builtin.firstCells,loadCells,loadCellsFrom];cases ao<;>simp[Builtin.append_,yO f,sizeOf,typeInfo,hi,Builtin.lenOf,Builtin.firstCells,d,storeCells,loadCells,loadCellsFrom]
theorem aio(S:St w0 d l L O X w)(j:Nat){o:O4}(q:O[j]?=cu o){t:dU}(A:a.eval (.tmp x)=o.v)(B:a.eval (.tmp y)=v)(R:c8 w T o.z v n xs)(V:xi P t o.e o.z by')(E:∀u∈xs,u.oneCell'=cx)(U:(o.n+n)*by'<=140737488355328)(N:o.n+n<=maxLen)(h:∀v' W,St w0 d l L (O.set j ⟨o.e,o.z,v',o.n+n,o.xs++xs⟩) X W->K (a.put (cu dst) v') W):
 Oper.wp P ⟨cu dst,.call {callee:=.builtin .append,args:=#[.tmp x,.tmp y],argTypes:=#[t,t]},t2,p,af,cw⟩ a w K Q:=by have⟨hu,zv,hi,hz,h0⟩:=V;have⟨it,hi1,hz0,hz1,hz2⟩:=oG hi;obtain⟨M,ao,cap,rfl,F,G,m⟩:=R;by_cases r:n=0;(subst r;have s:xs=[]:=yr cN;subst s;have f:=CM (P:=P) w w0.h.s t t2 o.e it o.z hu hi1 o.v o.n o.xs (S.uS q) ao cap;unfold Oper.wp execOp;simp only[resolve,invoke,builtin,lh,rR,nW,map_toArray,yq,map_nil,A,B,f];refine h _ _ ?_;rw[xJ,wR];have e1:O.set j ⟨o.e,o.z,o.v,o.n,o.xs⟩=O:=by apply xK;intro i;rw[BI];split;(next h=>subst h;split<;>simp_all);rfl);grind;obtain⟨b,c,C,D,rfl,J,H⟩:=m cN;refine wp_append_lies w (.tmp x) (.tmp y) t ae w0.h.s o.e it zv o.z by' hu hi1 hz0 hz1 hz2 hz h0 o.v o.n o.xs A (S.uS q) ⟨b,c,cw⟩ n cap xs B M (λi u Y=>?_) E cN N U S.fr.size _ ae λg z w' e I k _=>h _ w' ?_;rw[show(⟨b,c,cw⟩:Addr).add i=⟨b,c+i,cw⟩ from by grind[Addr.add],cell_of_row w b _ C T D J];grind;exact S.grow q I e ae k
def Gq(S:St w0 d l L O X w)(j:Nat){o:O4}(e:O[j]?=cu o){t:dU}(i:a.eval (.tmp x)=o.v)(m:a.eval (.tmp y)=v)(R:c8 w T o.z v n xs)(k:xi P t o.e o.z by')(b:∀u∈xs,u.oneCell'=cx)(g:(o.n+n)*by'<=140737488355328)(f:o.n+n<=maxLen)(h:∀v' W,St w0 d l L (O.set j ⟨o.e,o.z,v',o.n+n,o.xs++xs⟩) X W->wpList P ops Q rest (a.put (cu dst) v') W):
 wpList P ops Q (⟨cu dst,.call {callee:=.builtin .append,args:=#[.tmp x,.tmp y],argTypes:=#[t,t]},t2,p,af,cw⟩::rest) a w:=
 mC ae λ_ c=>aio S j e i m R k b g f λv' W hS=>c _ _ (h v' W hS)
end
def ad8:(prog.info? 5).map (λi=>(i.zero,i.s,i.bytes))=cu (cu (.int .u8 0),1,1):=dC
def Cg:xi prog 22 5 1 1:=⟨oT,_,ad8,ae,cN⟩
def A'(l:cV):∀u∈l.map λ(x:Nat)=>Value.int .u8 (x:Int),u.oneCell'=cx:=λu a=>by obtain⟨_,_,rfl⟩:=gI.1 a;rfl
def qh(l:List cQ):cV:=l.flatMap iM
def q9(l:List cQ):Option cV:=if l.n<=4000/\ou l=cx then cu (qh l) else cw
theorem vZ(l:List cQ):(qh l).n=l.n*16:=xk fY l
theorem Us{l:List cQ}(h:ou l=cx)(a:k<l.n):ij l[k]=cx:=by simp_all[ou,tN,ze]
theorem Mq(p:cQ)(b:dD p)(c:ij p=cx)(A:gE)(a:A=cL 3 (dF p))(w:cS):
 CP_ 233 #[bV A] w λe w'=>∃r,e=cj (cg #[r,bU cq 0])/\w'.ownsRow w.h.s 5 1 r 16 ((iM p).map λ(x:Nat)=>Value.int .u8 (x:Int))/\dR w w':=by rw[<-dk a];refine(xU p b w).mono λe w' h=>?_;simp_all[mN,fY]
theorem XJ(l:List cQ)(a:k<l.n):qh (l.take (k+1))=qh (l.take k)++iM l[k]:=by grind[qh,take_succ_eq_append_getElem]
section
attribute[local irreducible]wpList Code.wp Calls Oper.wp wpAnyH
def ON(l:List cQ)(y:∀q∈l,dD q)(v:c7)(w:cS)(G:l.length<=1000000000)(R:lk w v l):
 CP_ 275 #[v] w λe w'=>∃r,e=.returned (.tuple #[r,.int .i64 (gi 131 (q9 l))])/\mN w' w.heap.size r ((q9 l).getD [])/\dR w w':=by
 have t:=cz λw R=>Ar l v w G R;obtain⟨ao,cap,rfl,u,f⟩:=dP R;have R:=cz R;have f:=cz f;have S:=cz (qR w);by_cases c:l.length<=4000;case neg=>have d:Hid (q9 l=none):=cz (by unfold q9;rw[cZ (λh=>c h.1)]);have S:=S.o;go_enter func275,ntmps275;go_wp2;go_ret2;exact anA
 cases m:ou l with
 |false=>rw[m] at t;have d:Hid (q9 l=none):=cz (by unfold q9;rw[cZ (λh=>by rw[m] at h;cases h.2)]);have S:=S.o;go_enter func275,ntmps275;go_wp2_with (refine je S (t.o _ (R.o.cP S.b)) λW S=>?_);go_ret2;exact anA
 |true=>
  rw[m] at t;have d:Hid (q9 l=some (qh l)):=cz (by unfold q9;rw[df ⟨c,m⟩]);have D:=cz m;clear m;have S:=S.o;have H:IntKind.i64.wrap ((l.length:Int)*16)=((l.length*16:Nat):Int):=by rw[kS _ cN];omega
  have C:=cz y;clear y;go_enter func275,ntmps275;go_upto_region 5 with(first|refine je S (t.o _ (R.o.cP S.b)) λW S=>?_|refine J9 S (n:=l.length*16) Cg rfl rfl cN xZ rfl rfl λg W S=>?_);have S:=cz S;go_loopw [4,23] (λv i wr=>∃k:Nat,k<=l.length/\i=.int .i64 k/\Hid (St w none [] [] [⟨5,1,v,k*16,(qh (l.take k)).map λ(x:Nat)=>Value.int .u8 (x:Int)⟩] (λ_ _=>True) wr)) (λ_ i _=>l.length-(intOf i).toNat);exact⟨0,cN,ae,S⟩;clear S;obtain⟨k,I,rfl,hS⟩:=hrel;by_cases a:k<l.length
  . obtain⟨b,o,rfl⟩:=f.o cN;have S:=hS.o;clear hS;have⟨q,hq⟩:=dI (l[k]);have⟨A,hA⟩:=fP (cL 3 (dF q));have s:=cz (kE l a (A:=A) amq);have B:=cz hA;have z:=cz (Mq q (hq▸C.o _ (mP a)) (by rw[<-hq];exact Us D.o a) A hA);have j:=XJ l a;rw[hq] at j;have p:=cz j;clear hA hq j;generalize qh (l.take k)=M at S p;have F:=fY q;go_wp2_with (first|refine AD (R.o.cP S.b) a (vu B) s.o ?_|(refine ah (z.o _) λr W⟨ho,E⟩=>?_;replace S:=S.iv E ho ae ae)|(refine Gq S 1 ae (by':=1) ae ae S.q0 Cg (A' _) CK xZ ?_;clear S;intro v' W S)|refine fL ?_|refine fg λW S=>?_);go_roundw;exact⟨k+1,cN,by go_num,by rw[p.o,nL,succ_mul];exact cz S.pop.OJ⟩;exact pR
  . obtain rfl:k=l.length:=cN;have S:=hS.o;rw[qq] at S;clear hS;go_wp2;go_ret2;refine⟨_,by rw[d.o];rfl,?_,S.b⟩;rw[d.o];have h:=S.o0;unfold mN;rw[show((some (qh l)).getD [])=qh l from ae,vZ];exact h
def s7:Nat->cV->Option (List cQ)
 |0,_=>cu []
 |k+1,bs=>match s7 k bs with
  |none=>cw
  |some ps=>match nZ ((bs.drop (16*k)).take 16) with
   |none=>cw
   |some q=>cu (ps++[q])
def kW(bs:cV):Option (List cQ):=
 if bs.n%16=0/\bs.n<=64000 then
  match s7 (bs.n/16) bs with
  |none=>cw
  |some l=>if ou l=cx then cu l else cw
 else cw
theorem Ut(h:s7 k bs=cw)(a:k<=m):s7 m bs=cw:=by induction m with|zero=>grind|succ m ih=>grind[s7]
theorem XK{k:Nat}{bs:cV}{l:List cQ}(h:s7 k bs=cu l):l.n=k:=by induction k generalizing l<;>grind[s7]
theorem XL(l:cV)(k:Nat):(dN l).take k=dN (l.take k):=by simp_all[dN]
theorem RJ(bs:cV)(v:c7)(w:cS)(hs:bs.length<=1000000000)(G:eT .u8 w v (dN bs))(hc:yI v):
 CP_ 242 #[v] w λe w'=>∃r,e=.returned (.tuple #[r,.int .i64 (gi 131 (kW bs))])/\il w' w.heap.size r ((kW bs).getD [])/\dR w w':=by
 have L:=cz G;obtain⟨ao,cap,rfl,-,-,-⟩:=G;obtain⟨_,_,_,Q,d⟩:=hc;simp only[ly] at Q;obtain⟨rfl,rfl,rfl⟩:=Q;rw[dA] at L d|-;have S:=qR w;by_cases U:bs.length%16=0
 case neg=>
  have t:Hid (kW bs=none):=cz (by unfold kW;rw[cZ (λh=>U h.1)]);have g:(((bs.length:Nat):Int)%16 !=0)=true:=by rw[fJ];omega
  go_enter func242,ntmps242;go_wp2;go_ret2;exact anB
 have g:(((bs.length:Nat):Int)%16 !=0)=false:=by rw[vI];omega
 by_cases O:bs.length<=64000;case neg=>have t:Hid (kW bs=none):=cz (by unfold kW;rw[cZ (λh=>O h.2)]);go_enter func242,ntmps242;go_wp2;go_ret2;exact anB
 obtain⟨n,t⟩:∃n,bs.length=16*n:=⟨bs.length/16,cN⟩;have f:Hid (kW bs=match s7 n bs with|none=>none|some l=>if ou l=true then some l else none):=cz (by unfold kW;rw[df ⟨U,O⟩,show bs.length/16=n by omega]);have hq:IntKind.i64.wrap (((bs.length:Nat):Int)/16)=(n:Int):=by rw[kS _ cN];omega
 rw[t] at L d;have Z:(((bs.length:Nat):Int)/16)=(n:Int):=cN;go_enter func242,ntmps242;go_upto_region 4 with(refine J9 S (n:=n) gX ae ae cN xZ ae ae λg W S=>?_);have S:=cz S;go_loopw [0,4] (λu v wr=>∃(k m:Nat)(a:Option Addr)(c:Nat)(ps:List cQ),m+16*k=16*n/\u=.slice a m c/\m<=c/\ps.length=k/\Hid (s7 k bs=some ps/\eT .u8 w u (dN (bs.drop (16*k)))/\St w none [] [] [⟨106,3,v,ps.length,iS ps⟩] (λ_ _=>True) wr)) (λu _ _=>match u with| .slice _ m _=>m|_=>0);exact⟨0,16*n,ao,cap,[],cN,ae,d,ae,ae,L.o,S.o⟩;clear S;obtain⟨k,m,a,c,ps,hk,rfl,M,D,hS⟩:=hrel;by_cases Y:k<n
 . (obtain⟨H,rfl⟩:∃H,m=H+16:=⟨m-16,cN⟩;obtain⟨c1,rfl⟩:∃c1,c=c1+16:=⟨c-16,cN⟩;have⟨hpp,hI,S⟩:=hS.o;clear hS;have p:=WD (y:=16) hI cN;rw[XL] at p;have s:=BT (y:=16) hI cN M;rw[BU,drop_drop,QS,QS,show 16*k+16=16*(k+1) by omega] at s;obtain⟨b,o,rfl,-,-⟩:∃b o,a=s_ b o/\True/\True:=by(obtain⟨a',c',e1,_,_,e4⟩:=hI;simp only[ly] at e1;obtain⟨rfl,-,-⟩:=e1;have N:dN (bs.drop (16*k))≠ []:=λh=>by have:=gD length h;rw[dA,tY] at this;simp at this;omega);obtain⟨b,o,X,_⟩:=e4 N;exact⟨b,o,X,iG,iG⟩);(have j:=cz p;have A:eT .u8 w (.slice (if c1=0 then some ⟨b,o,none⟩ else some ⟨b,o+16,none⟩) H c1) (dN (bs.drop (16*(k+1)))):=by rw[Q7] at s;grind);(have J:=cz A;have K:=cz hpp;clear hI p s A hpp;have⟨x,hx⟩:=dI ((bs.drop (16*k)).take 16);rw[hx] at j;have F:=cz λu w G hc=>wX u x w G hc;have E:s7 (k+1) bs=match nZ x with|none=>none|some q=>some (ps++[q]):=by show(match s7 k bs with|none=>none|some ps=>match nZ ((bs.drop (16*k)).take 16) with|none=>none|some q=>some (ps++[q]))=_;rw[K.o,hx]);have i:=cz E;clear E hx;cases z:nZ x with|none=>have⟨T,hT⟩:=fP (cL 3 (dF cX));rw[z,show(none:Option cQ).getD cX=cX from ae,dk hT] at F;rw[z] at i;have V:=cz hT;clear hT z;have C:Hid (kW bs=none):=cz (by rw[f.o,Ut (k:=k+1) i.o cN]);go_wp2_with (first|refine je S (F.o _ _ (j.o.cP S.b) ⟨_,_,_,rfl,cN⟩) λW S=>?_|refine fg λW S=>?_);go_ret2;exact⟨_,by rw[C.o];rfl,by rw[C.o];exact aV,S.b⟩|some q=>have⟨T,hT⟩:=fP (cL 3 (dF q));rw[z,show(some q).getD cX=q from ae,dk hT] at F;rw[z] at i;have V:=cz hT;clear hT z;go_wp2_with (first|refine je S (F.o _ _ (j.o.cP S.b) ⟨_,_,_,rfl,cN⟩) λW S=>?_|refine tA S 0 rfl 0 rfl rfl rfl rfl gX (dJ _) CK xZ λg cap W S=>?_|refine fL ?_|refine fg λW S=>?_);go_roundw;exact⟨k+1,H,_,c1,ps++[q],cN,ae,cN,by simp[D],by rw[ji,jk,qe];exact cz ⟨i.o,J.o,by rw[<-D];exact S.pop.pop⟩⟩;simp
 . obtain rfl:k=n:=cN;obtain rfl:m=0:=cN;have⟨hpp,hI,S⟩:=hS.o;clear hS hI;rw[hpp] at f;have⟨b,hb2⟩:=dI (ou ps);have I:=cz λv w R=>Ar ps v w cN R;rw[hb2] at I;simp only[hb2] at f;clear hb2 hpp;cases b with|true=>go_wp2_with (refine je S (I.o _ _ (il.sl S.o0)) λW S=>?_);go_ret2;have B:kW bs=some ps:=f.o;exact⟨_,by rw[B];rfl,by rw[B];exact S.o0,S.b⟩|false=>go_wp2_with (refine je S (I.o _ _ (il.sl S.o0)) λW S=>?_);go_ret2;have B:kW bs=none:=f.o;exact⟨_,by rw[B];rfl,by rw[B];exact aV,S.b⟩
end
section
variable {P:oN}
variable {x:Nat}
def aip(S:St w0 d l L O X w){t:dU}{A:gE}(i:a.eval (.tmp x)=bV A)(b:A=cL n f)(g:xi P t e n by')(c:n<=16777216)(ho:gV e=cy)(h:∀W,St w0 d l (⟨w.h.s,e,n,f⟩::L) O X W->K (a.put (cu dst) (bX (cu ⟨w.h.s,0,cw⟩) 1 1)) W):Oper.wp P ⟨cu dst,.buildSlice t 1 #[(0,.tmp x)],t2,p,af,cw⟩ a w K Q:=by have⟨hu,zv,hi,hz,h0⟩:=g;exact Ex t e (.tmp x) ae A n by' zv i hu hi h0 c (ha_ b) (h _ (S.alloc e b ho))
theorem aiq(S:St w0 d l L O X w)(k:Nat)(n:L[k]?=cu r)(j:Nat){o:O4}(e:O[j]?=cu o){t:dU}(z:a.eval (.tmp x)=o.v)(B:a.eval (.tmp y)=bX (cu ⟨r.b,0,cw⟩) 1 1)(v:r.n=o.z)(A:xi P t o.e o.z by')(C:∀i,(r.f i).oneCell'=cx)(s:(o.n+1)*by'<=140737488355328)(q:o.n+1<=maxLen)(h:∀g cap W,St w0 d l L (O.set j ⟨o.e,o.z,bX (cu ⟨g,0,cw⟩) (o.n+1) cap,o.n+1,o.xs++(cL r.n r.f).t⟩) X W->K (a.put (cu dst) (bX (cu ⟨g,0,cw⟩) (o.n+1) cap)) W):
 Oper.wp P ⟨cu dst,.call {callee:=.builtin .append,args:=#[.tmp x,.tmp y],argTypes:=#[t,t]},t2,p,af,cw⟩ a w K Q:=by
 have⟨f,zv,hi,hz,h0⟩:=A;refine Ge (.tmp x) (.tmp y) t ae w0.h.s o.e zv o.z by' f hi hz h0 o.v o.n o.xs z (S.uS e) r.b (cL r.n r.f) r.t (0,0) B (S.oW n) (by rw[cW,v])
  (λu f=>?_) q s S.fr.size λg cap w' b m c _=>h g cap w' ?_
 grind[oE,Array.all_eq_true_iff_forall_mem];exact S.grow e m b ae c
end
theorem c8.ahJ{b o:Nat}{x:List c7}(h:c8 w e z (bX (cu ⟨b,o,cw⟩) (n+1) (c+1)) (n+1) (x++xs))(f:x.n=z):c8 w e z (bX (if c=0 then cu ⟨b,o,cw⟩ else cu ⟨b,o+z,cw⟩) n c) n xs:=by have⟨h1,ao,cap,h2,h3,h4,h5⟩:=h;simp only[ly] at h2;obtain⟨rfl,-,rfl⟩:=h2;refine⟨by grind,_,_,ae,cN,by omega,λd=>?_⟩;have⟨b',o',cs,fl,e1,hh,hc⟩:=h5 cN;cases e1;rw[cZ cN];refine⟨b,o+z,cs,fl,ae,hh,λj u a=>?_⟩;simp_all[FT,IV]
theorem yg(p:cQ)(l:List cQ):iS (p::l)=ajR p++iS l:=by rfl
def jP:List cQ->List cQ->Option (List cQ)
 | [],b=>cu b
 |p::a,[]=>cu (p::a)
 |p::a,q::b=>
  if nY p q=cx then(jP a (q::b)).map (p::·) else
  if nY q p=cx then(jP (p::a) b).map (q::·) else cw
termination_by a b=>a.n+b.n
def RK(p q:cQ)(A B:gE)(a:A=cL 3 (dF p))(b:B=cL 3 (dF q))(w:cS):tf 178 #[bV A,bV B] w (bZ (nY p q)):=by rw[<-dk a,<-dk b];exact PL p q w
section
attribute[local irreducible]wpList Code.wp Calls Oper.wp wpAnyH
theorem OO(l m:List cQ)(v u:c7)(w:cS)(hl:l.n<=100000000)(hm:m.n<=100000000)(R1:lk w v l)(R2:lk w u m):
 CP_ 134 #[v,u] w λe w'=>∃r,e=cj (cg #[r,bU cq (gi 131 (jP l m))])/\il w' w.h.s r ((jP l m).getD [])/\dR w w':=by
 obtain⟨ao,cap,rfl,Y,-⟩:=dP R1;obtain⟨T,a2,rfl,X,-⟩:=dP R2;have S:=qR w;have a1:IntKind.i64.wrap ((l.n:Int)+(m.n:Int))=((l.n+m.n:Nat):Int):=by rw[kS _ cN];omega
 have⟨N,hN⟩:=fP (l.n+m.n);have a3:N<=200000000:=cN;rw[<-hN] at a1;have HN:=cz hN;clear hN;go_enter func134,ntmps134;go_upto_region 2 with(refine J9 S (n:=N) gX ae (by rw[HN.o,Int.natCast_add];rfl) cN xZ ae ae λg W S=>?_);have S:=cz S;have R1:=cz R1;have R2:=cz R2;clear a1;go_loopw [0,1,6] (λx y z wr=>∃(a b M:List cQ)(ao T:Option Addr)(s t:Nat),M.n+a.n+b.n=N/\x=bX ao a.n s/\y=bX T b.n t/\a.n<=s/\b.n<=t/\Hid (jP l m=(jP a b).map (M++ ·)/\lk w x a/\lk w y b/\St w cw [] [] [⟨106,3,z,M.n,iS M⟩] (λ_ _=>True) wr)) (λx y _ _=>(match x with|bX _ m _=>m|_=>0)+(match y with|bX _ m _=>m|_=>0));exact⟨l,m,[],ao,T,cap,a2,by rw[HN.o];simp,ae,ae,Y,X,by simp,R1.o,R2.o,S.o⟩;clear S;obtain⟨a,b,M,ao,T,s,t,f,rfl,rfl,C,E,hS⟩:=hrel;cases a with|nil=>have⟨hmm,ha,hb,S⟩:=hS.o;clear hS;have G:Hid (jP l m=cu (M++b)):=cz (by rw[hmm];simp[jP]);have D:=cz ha;have F:=cz hb;simp only[tX] at C f;clear hmm ha hb;go_wp2_with (first|refine Gq S 0 rfl (by':=24) (n:=0) (xs:=[]) rfl rfl (D.o.cP S.b) gX eQ CK xZ λv1 W S=>?_|refine Gq S 0 rfl (by':=24) rfl rfl (F.o.cP S.b) gX (oO _) CK xZ λv2 W S=>?_);go_ret2;refine⟨_,by rw[G.o];rfl,?_,S.b⟩;rw[G.o];have h:=S.o0;show World.ownsRow _ _ _ _ _ (M++b).n (iS (M++b));rw[ji,jk];simpa using h|cons p a=>cases b with|nil=>have⟨hmm,ha,hb,S⟩:=hS.o;clear hS;have G:Hid (jP l m=cu (M++(p::a))):=cz (by rw[hmm];simp[jP]);have D:=cz ha;have F:=cz hb;simp only[tX,lr] at C E f D|-;clear hmm ha hb;have a4:M.n+(a.n+1)<=200000000:=cN;go_wp2_with (first|refine Gq S 0 rfl (by':=24) rfl rfl (D.o.cP S.b) gX (oO _) (by simp only[lr];omega) anG λv1 W S=>?_|refine Gq S 0 rfl (by':=24) (n:=0) (xs:=[]) rfl rfl (F.o.cP S.b) gX eQ (by simp only[lr];omega) anG λv2 W S=>?_);go_ret2;refine⟨_,by rw[G.o];rfl,?_,S.b⟩;rw[G.o];have h:=S.o0;show World.ownsRow _ _ _ _ _ (M++(p::a)).n (iS (M++(p::a)));rw[ji,jk];simpa using h|cons q b=>(have⟨hmm,ha,hb,S⟩:=hS.o;clear hS;obtain⟨s,rfl⟩:∃c,s=c+1:=⟨s-1,by simp at C;omega⟩;obtain⟨t,rfl⟩:∃c,t=c+1:=⟨t-1,by simp at E;omega⟩;obtain⟨H,o1,rfl⟩:∃b o,ao=s_ b o:=by obtain⟨_,_,e1,_,h⟩:=dP ha;grind);(obtain⟨I,o2,rfl⟩:∃b o,T=s_ b o:=by obtain⟨_,_,e1,_,h⟩:=dP hb;grind);(have U:lk w (bX (if s=0 then cu ⟨H,o1,cw⟩ else cu ⟨H,o1+3,cw⟩) a.n s) a:=by have h:=ha;unfold lk at h;rw[yg] at h;exact c8.ahJ h (zf p));(have V:lk w (bX (if t=0 then cu ⟨I,o2,cw⟩ else cu ⟨I,o2+3,cw⟩) b.n t) b:=by have h:=hb;unfold lk at h;rw[yg] at h;exact c8.ahJ h (zf q));(have⟨A,hA⟩:=fP (cL 3 (dF p));have⟨B,hB⟩:=fP (cL 3 (dF q));have sA:=cz (kE (p::a) (i:=0) eQ hA);have sB:=cz (kE (q::b) (i:=0) eQ hB);have D:=cz hA;have F:=cz hB;have C1:=cz (RK p q A B hA hB);have C2:=cz (RK q p B A hB hA);have L:Hid (c8 w 106 3 (bX (s_ H o1) (a.n+1) (s+1)) (a.n+1) (iS (p::a))):=cz ha;have Q:Hid (c8 w 106 3 (bX (s_ I o2) (b.n+1) (t+1)) (b.n+1) (iS (q::b))):=cz hb;have O:=cz U;have R:=cz V;have Z:jP (p::a) (q::b)=if nY p q=cx then(jP a (q::b)).map (p::·) else if nY q p=cx then(jP (p::a) b).map (q::·) else cw:=by rw[jP]);rw[Z] at hmm;have k:=cz hmm;simp only[lr] at C E f|-;clear ha hb U V hA hB Z hmm;have⟨na,hna⟩:=dI a.n;have⟨nb,hnb⟩:=dI b.n;rw[hna] at C f L O|-;rw[hnb] at E f Q R|-;go_upto_region 4 with(fail);refine eu S dC λW S=>?_;refine dh 0 _ ?_;refine dh 1 (dE H o1) ?_;refine gZ 2 (bV A) ae (ySl (o:=o1) (j:=0) (λw h=>by obtain⟨_,S⟩:=h;exact L.o.cP S.b) (succ_pos _) bK (vu D) sA.o fK) ?_;refine dh 3 _ ?_;refine dh 4 (dE I o2) ?_;refine gZ 5 (bV B) ae (ySl (o:=o2) (j:=0) (λw h=>by obtain⟨_,S⟩:=h;exact Q.o.cP S.b) (succ_pos _) bK (vu F) sB.o fK) ?_;refine kI 6 λK d=>?_;go_wp2_with fail;refine je S (C1.o _) λW S=>?_;refine gq d ?_;clear d K;refine dh 7 _ ?_;refine qx ?_;cases h1:nY p q with|true=>rw[h1] at k;have J:Hid (jP l m=(jP a (q::b)).map ((M++[p])++ ·)):=cz (by rw[k.o,df ae];cases jP a (q::b)<;>simp);go_upto_region 5 with(fail);refine Ce S dC λW S=>?_;refine dh 0 _ ?_;refine dh 1 _ ?_;refine dh 2 (dE H o1) ?_;refine gZ 3 (bV A) ae (ySl (o:=o1) (j:=0) (λw h=>by obtain⟨_,_,_,S⟩:=h;exact L.o.cP S.b) (succ_pos _) bK (vu D) sA.o fK) ?_;refine dh 6 _ ?_;refine gZ 7 (bX (if s=0 then cu ⟨H,o1,cw⟩ else cu ⟨H,o1+3,cw⟩) na s) ae (Or.inl ⟨dC,λw hw=>by have h0:¬((na:Int)+1<1):=cN;go_simp⟩) ?_;refine kI 4 λK d=>?_;refine aip S ae D.o gX cN ae λW S=>?_;refine gq d ?_;clear d K;refine kI 5 λK d=>?_;refine aiq S 0 ae 0 ae ae ae ae gX (dJ _) CK xZ λg cap W S=>?_;refine gq d ?_;clear d K;refine dh 8 _ ?_;refine dh 9 _ ?_;refine qx ?_;go_wp2;go_roundw;exact⟨a,q::b,M++[p],_,_,s,t+1,by simp;omega,by rw[hna],by rw[lr,hnb],cN,by rw[lr];omega,cz ⟨J.o,O.o,(by unfold lk;rw[lr,hnb];exact Q.o),by rw[ji,jk,qe];exact S.pop⟩⟩;simp|false=>rw[h1,cZ QU] at k;go_upto_region 6 with(fail);refine eu S dC λW S=>?_;refine dh 0 _ ?_;refine dh 1 (dE I o2) ?_;refine gZ 2 (bV B) ae (ySl (o:=o2) (j:=0) (λw h=>by obtain⟨_,S⟩:=h;exact Q.o.cP S.b) (succ_pos _) bK (vu F) sB.o fK) ?_;refine dh 3 _ ?_;refine dh 4 (dE H o1) ?_;refine gZ 5 (bV A) ae (ySl (o:=o1) (j:=0) (λw h=>by obtain⟨_,S⟩:=h;exact L.o.cP S.b) (succ_pos _) bK (vu D) sA.o fK) ?_;refine kI 6 λK d=>?_;go_wp2_with fail;refine je S (C2.o _) λW S=>?_;refine gq d ?_;clear d K;refine dh 7 _ ?_;refine qx ?_;cases h2:nY q p with|true=>rw[h2] at k;have J:Hid (jP l m=(jP (p::a) b).map ((M++[q])++ ·)):=cz (by rw[k.o,df ae];cases jP (p::a) b<;>simp);go_upto_region 7 with(fail);refine Ce S dC λW S=>?_;refine dh 0 _ ?_;refine dh 1 _ ?_;refine dh 2 (dE I o2) ?_;refine gZ 3 (bV B) ae (ySl (o:=o2) (j:=0) (λw h=>by obtain⟨_,_,_,S⟩:=h;exact Q.o.cP S.b) (succ_pos _) bK (vu F) sB.o fK) ?_;refine dh 6 _ ?_;refine gZ 7 (bX (if t=0 then cu ⟨I,o2,cw⟩ else cu ⟨I,o2+3,cw⟩) nb t) ae (Or.inl ⟨dC,λw hw=>by have h0:¬((nb:Int)+1<1):=cN;go_simp⟩) ?_;refine kI 4 λK d=>?_;refine aip S ae F.o gX cN ae λW S=>?_;refine gq d ?_;clear d K;refine kI 5 λK d=>?_;refine aiq S 0 ae 0 ae ae ae ae gX (dJ _) CK xZ λg cap W S=>?_;refine gq d ?_;clear d K;refine dh 8 _ ?_;refine dh 9 _ ?_;refine qx ?_;go_wp2;go_roundw;exact⟨p::a,b,M++[q],_,_,s+1,t,by simp;omega,by rw[lr,hna],by rw[hnb],by rw[lr];omega,cN,cz ⟨J.o,(by unfold lk;rw[lr,hna];exact L.o),R.o,by rw[ji,jk,qe];exact S.pop⟩⟩;simp|false=>rw[h2,cZ QU] at k;have G:Hid (jP l m=cw):=cz (by rw[k.o];rfl);go_wp2;go_ret2;exact⟨_,by rw[G.o];rfl,by rw[G.o];exact aV,S.b⟩
end
section
variable {P:oN}
variable {x:Nat}
def rE{SS:cS->Prop}{b:Nat}{t:dU}(d:∀w,SS w->cM w b t n f)(i:a.eval (.tmp x)=bW (cu ⟨b,0,cw⟩)){A:gE}(c:A=cL n f)(e:kg P ty n)(g:Region.wanted ⟨cu dst,.load ty (.tmp x),t2,p,af,gd⟩ (yielded ops a.tmps)=cx:=by kernel_rfl):YieldsIf P ops SS ⟨cu dst,.load ty (.tmp x),t2,p,af,gd⟩ (bV A) a:=by have⟨⟨dd,hu,hd⟩,hi⟩:=e;have h:=yieldsIf_load_mid (P:=P) (S:=SS) (op:=⟨cu dst,.load ty (.tmp x),t2,p,af,gd⟩) (ops:=ops) g ty (.tmp x) ae b 0 i A.t dd (λw h=>Cb (d w h) c) hu hd aG;omega
end
def ox:lD prog 107:=⟨⟨_,underlying107,ae⟩,dC⟩
instance in6d1de :ru 107:=⟨ox⟩
def mj(p:Nat->Bool):Nat->Nat->Nat->Nat
 |0,i,_=>i
 |f+1,i,j=>if i<j then(if p ((i+j)/2)=cx then mj p f i ((i+j)/2) else mj p f ((i+j)/2+1) j) else i
theorem CR(p:Nat->Bool):∀(f g i j:Nat),j-i<=f->j-i<=g->mj p f i j=mj p g i j:=by intro f;induction f with|zero=>(intro g i j a b;have c:¬i<j:=cN;cases g with|zero=>rfl|succ g=>unfold mj;grind)|succ f ih=>intro g i j a b;cases g with|zero=>grind|succ g=>unfold mj;grind
def Hf(p:Nat->Bool)(n:Nat):Nat:=mj p n 0 n
theorem KQ(p:Nat->Bool)(h:i<j):mj p (j-i) i j=if p ((i+j)/2)=cx then mj p ((i+j)/2-i) i ((i+j)/2) else mj p (j-((i+j)/2+1)) ((i+j)/2+1) j:=by obtain⟨f,a⟩:∃f,j-i=f+1:=⟨j-i-1,cN⟩;rw[a];show(if i<j then _ else _)=_;rw[df h,CR p f ((i+j)/2-i) i _ cN cN,CR p f (j-((i+j)/2+1)) _ j cN cN]
theorem OP(p:Nat->Bool):∀(f i j:Nat),i<=j->mj p f i j<=j:=by intro f;induction f<;>grind[mj]
section
attribute[local irreducible]wpList Code.wp Calls Oper.wp wpAnyH
def XM(p:Nat->Bool)(n:Nat)(v:n<=1000000000)(g:Nat)(f:gE)(w:cS)(t:∀args w,(callFunc g args).run prog w=.ok (.enter g args) w)(hc:∀k W,k<n->dR w W->CP_ g (#[bU cq k]++f) W λe w'=>e=cj (bZ (p k))/\dR W w'):
 tf 234 #[bU cq n,.func (.func g) #[] f] w (bU cq (Hf p n:Nat)):=by
 have l:=cz hc;clear hc;have S:=cz (qR w);go_enter func234,ntmps234;go_wp2_with fail;go_loopw [5,6] (λx y wr=>∃i j:Nat,i<=j/\j<=n/\x=bU cq i/\y=bU cq j/\Hid (Hf p n=mj p (j-i) i j/\St w cw [] [] [] (λ_ _=>True) wr)) (λx y _=>(intOf y).m-(intOf x).m);exact⟨0,n,cN,by omega,ae,ae,ae,S.o⟩;clear S;obtain⟨i,j,q,u,rfl,rfl,hS⟩:=hrel;by_cases c:i<j
 . (have⟨hse,S⟩:=hS.o;clear hS;rw[KQ p c] at hse;have⟨m,hm⟩:=dI ((i+j)/2);rw[hm] at hse;have r:i<=m/\m<j:=cN;have a:=cz hse;have z:IntKind.i64.wrap ((i:Int)+(j:Int))=(((i+j:Nat):Nat):Int):=by rw[kS _ cN];omega);have A:IntKind.u64.wrap (((i+j:Nat):Nat):Int)=(((i+j:Nat):Nat):Int):=BX _ cN;have s:((i:Int)+(j:Int))/2=(m:Int):=cN;have B:IntKind.i64.wrap ((m:Nat):Int)=(m:Int):=kS _ cN;have d:=cz λW b=>l.o m W cN b;clear hse;rcases hp:p m with _|_;rotate_left
   all_goals
    rw[hp] at d a
    go_wp2_with fail
    refine aj (d.o _ S.b) λW b=>?_;replace S:=cz (And.intro a.o (S.cP b));go_wp2;go_roundw
    case rel=>first|exact⟨m+1,j,cN,by omega,by go_num,ae,S⟩|exact⟨i,m,cN,by omega,ae,ae,S⟩
    case measure=>exact pR
 . obtain rfl:i=j:=cN;have⟨hse,S⟩:=hS.o;rw[Nat.sub_self] at hse;have h:Hf p n=i:=hse;have o:=cz h;clear hS hse h;go_wp2;go_ret;exact⟨by rw[o.o];rfl,S.b⟩
def Uu(l:List cQ)(q:cQ)(v:c7)(d g:Nat)(w:cS)(j:cM w d 107 1 (λ_=>v))(m:cM w g 106 3 (dF q))(R:lk w v l)(e:k<l.n)(z:l.n<=1000000000):
 tf 235 #[bU cq k,bW (cu ⟨d,0,cw⟩),bW (cu ⟨g,0,cw⟩)] w (bZ (!nY (l.getD k cX) q)):=by obtain⟨ao,cap,rfl,n,a⟩:=dP R;obtain⟨b,o,rfl⟩:=a cN;have R:=cz R;have s:=cz j;have t:=cz m;have⟨p,hp⟩:=dI (l[k]);rw[RI e,hp];have⟨A,hA⟩:=fP (cL 3 (dF p));have⟨B,hB⟩:=fP (cL 3 (dF q));have c:=cz (kE l e (A:=A) (by rw[hp];exact hA));have f:=cz (RK p q A B hA hB);have u:=cz hA;have x:=cz hB;have S:=qR w;clear j m hp hA hB a;generalize nY p q=r at f|-;go_enter func235,ntmps235;go_upto_region 1 with(fail);refine eu S dC λW S=>?_;refine gZ 0 (bX (s_ b o) l.n cap) ae (gO (b:=d) (o:=0) (λw h=>by obtain⟨_,S⟩:=h;exact cM.cell (cM.cP s.o S.b) (i:=0) cN) ae ox) ?_;refine dh 1 _ ?_;refine dh 2 (dE b (o+k*3)) ?_;refine gZ 3 (bV A) ae (ySl (λw h=>by obtain⟨_,S⟩:=h;exact R.o.cP S.b) e ae (vu u) c.o fK) ?_;refine gZ 4 (bV B) ae (rE (λw h=>by obtain⟨_,S⟩:=h;exact cM.cP t.o S.b) ae x.o fK) ?_;refine kI 5 λK y=>?_;go_wp2_with fail;refine je S (f.o _) λW S=>?_;refine gq y ?_;refine dh 6 (bZ !r) ?_;refine dh 7 _ ?_;refine qx ?_;go_wp2;go_ret;exact az
end
def Gr(P:oN)(t:dU)(z:Nat):Prop:=P.underlying t=cu (.slice (P.elem t))/\∀W,(sizeOf (P.elem t)).run P W=.ok z W
section
variable {P:oN}
variable {x:Nat}
theorem zh{t:dU}(h:Gr P t z)(v:c7)(lo hi a:Option c7)(W:cS):(Instr.sliceAt t v lo hi a).run P W=(Instr.slice t v lo hi a).run P W:=by unfold Instr.sliceAt;rw[lh,yO h.1 W];rfl
theorem Mr{t:dU}{z:Nat}(h:Gr P t z)(ao:Option Addr)(n c y:Nat)(a:y<=n)(W:cS):(Instr.sliceAt t (bX ao n c) (cu (.int cq y)) cw cw).run P W=.ok (bX (lz ao c y z) (n-y) (c-y)) W:=by rw[zh h,run_slice_l W t ao n c h.1 cq (y:Nat) cN cN,h.2];rfl
theorem ad9{t:dU}{z:Nat}(h:Gr P t z)(ao:Option Addr)(n c y:Nat)(a:y<=c)(W:cS):(Instr.sliceAt t (bX ao n c) cw (cu (.int cq y)) cw).run P W=.ok (bX ao y c) W:=by rw[zh h,run_slice_h W t ao n c h.1 cq (y:Nat) cN cN,h.2];simp only[Result.andThen,sliced,tZ,xx];rcases vK c with rfl|h;rfl;simp_all[Addr.add]
def Zo(dst:Nat)(ty:dU)(x:Nat){lo hi b:Option Operand}(h:wpList P ops Q (⟨some dst,.slice ty (.tmp x) lo hi b,t2,p,af,none⟩::rest) a w):wpList P ops Q (⟨some dst,.slice ty (.tmp x) lo hi b,t2,p,af,none⟩::rest) a w:=h
theorem Uv(d:Gr P ty z)(e:a.eval (.tmp x)=.slice ao n c)(b:a.eval hi=.int .i64 y)(f:y<=c)(h:wpList P ops Q rest (a.put (some dst) (.slice ao y c)) w):
 wpList P ops Q (⟨some dst,.slice ty (.tmp x) none (some hi) none,t2,p,af,none⟩::rest) a w:=
 nH ae ty (.tmp x) none (some hi) none ae _ (by grind[ad9]) h
theorem zi(d:Gr P ty z)(e:a.eval (.tmp x)=.slice ao n c)(b:a.eval lo=.int .i64 y)(f:y<=n)(h:wpList P ops Q rest (a.put (some dst) (.slice (lz ao c y z) (n-y) (c-y))) w):
 wpList P ops Q (⟨some dst,.slice ty (.tmp x) (some lo) none none,t2,p,af,none⟩::rest) a w:=
 nH ae ty (.tmp x) (some lo) none none ae _ (by grind[Mr]) h
end
theorem c8.take(h:c8 w e z (bX ao n c) n xs)(hi:i<=n):c8 w e z (bX ao i c) i (xs.take (i*z)):=by have⟨h1,ao',cap,h2,h3,h4,h5⟩:=h;simp only[ly] at h2;obtain⟨rfl,-,rfl⟩:=h2;have a:=IW z hi;refine⟨by grind,ao,c,ae,cN,h4,λb=>?_⟩;grind
theorem c8.CU(h:c8 w e z (bX ao n c) n xs)(hi:i<=n):c8 w e z (bX (lz ao c i z) (n-i) (c-i)) (n-i) (xs.drop (i*z)):=by have⟨h1,ao',cap,h2,h3,h4,h5⟩:=h;simp only[ly] at h2;obtain⟨rfl,-,rfl⟩:=h2;refine⟨by grind[Nat.sub_mul],_,_,ae,cN,by omega,λk=>?_⟩;obtain⟨b,o,a,d,rfl,f,hc⟩:=h5 cN;refine⟨b,o+i*z,a,d,JW b o c i z cN,f,λj u g=>?_⟩;grind
theorem EF(l:List cQ)(i:Nat):(iS l).take (i*3)=iS (l.take i):=by induction l generalizing i with|nil=>simp[iS]|cons p l ih=>cases i with|zero=>simp[iS]|succ i=>rw[take_succ_cons,yg,yg,take_append,zf,<-ih i,nU (by rw[zf];omega),show(i+1)*3-3=i*3 by omega]
theorem EH(l:List cQ)(i:Nat):(iS l).drop (i*3)=iS (l.drop i):=by induction l generalizing i with|nil=>simp[iS]|cons p l ih=>cases i with|zero=>simp|succ i=>rw[drop_succ_cons,yg,drop_append,zf,<-ih i,Df (by rw[zf];omega),show(i+1)*3-3=i*3 by omega,pN]
theorem EI:Gr prog 107 3:=⟨dC,λW=>by rfl⟩
def Uw(l:List cQ)(q:cQ):Nat:=Hf (λk=>!nY (l.getD k cX) q) l.n
def rF(l:List cQ)(q:cQ):Option (List cQ):=
 if ze q=cy then cw else
 if Uw l q<l.n/\l.getD (Uw l q) cX=q then cw else
 cu (l.take (Uw l q)++q::l.drop (Uw l q))
theorem aea{l:List cQ}{q:cQ}(hi:i<=l.n)(h:w.ownsRow base 106 3 v n (([]++(iS l).take (i*3))++(cL 3 (dF q)).t++(iS l).drop (i*3))):il w base v ((cu (l.take i++q::l.drop i)).getD []):=by
 show World.ownsRow _ _ _ _ _ (l.take i++q::l.drop i).n (iS (l.take i++q::l.drop i));have e1:iS (l.take i++q::l.drop i)=([]++(iS l).take (i*3))++(cL 3 (dF q)).t++(iS l).drop (i*3):=by rw[jk,yg,EF,EH,pN,wP];rfl
 have e2:(l.take i++q::l.drop i).n=n:=by have:=h.1;grind[yW]
 grind
section
attribute[local irreducible]wpList Code.wp Calls Oper.wp wpAnyH
theorem Ux(l:List cQ)(q:cQ)(v:c7)(A:gE)(G:A=cL 3 (dF q))(w:cS)(Z:l.n<=100000000)(R:lk w v l):
 CP_ 186 #[v,bV A] w λe w'=>∃r,e=cj (cg #[r,bU cq (gi 131 (rF l q))])/\il w' w.h.s r ((rF l q).getD [])/\dR w w':=by
 obtain⟨ao,cap,rfl,j,H⟩:=dP R;have R:=cz R;have Q:=cz G;have t:=cz (Ur q A G);have S:=qR w;have⟨i,hi⟩:=dI (Uw l q);have a:i<=l.n:=by rw[<-hi];exact OP _ _ _ _ (gw _)
 have z:rF l q=if ze q=cy then cw else if i<l.n/\l.getD i cX=q then cw else cu (l.take i++q::l.drop i):=by unfold rF;rw[hi]
 have c:=cz z;have D:Hf (λk=>!nY (l.getD k cX) q) l.n=i:=hi;have N:∀args w,(callFunc 235 args).run prog w=.ok (.enter 235 args) w:=enters_of func235 dC ae;have J:=cz λ(U:gE)W hc=>XM (λk=>!nY (l.getD k cX) q) l.n cN 235 U W N hc;rw[D] at J;clear G z hi D N H;go_enter func186,ntmps186;go_upto_region 2 with(first|(have O:=λ(k:Nat)(T:cS)(V:k<l.n)y=>Uu l q (bX ao l.n cap) _ _ T (cM.cP S.k1 y) (cM.cP S.k0 y) ((R.o.cP S.b).cP y) V cN;refine(J.o #[dE _ 0,dE _ 0] _ O).mono ?_;clear O;rintro e W ⟨rfl,y⟩;replace S:=S.cP y)|refine fL ?_|refine fg λW S=>?_)
 cases C:ze q with
 |false=>rw[C] at t;have f:Hid (rF l q=cw):=cz (by rw[c.o,df C]);clear C;refine eu S dC λW S=>?_;refine dh 0 (bV A) ?_;refine kI 1 λK s=>?_;go_wp2_with fail;refine je S (t.o _) λW S=>?_;refine gq s ?_;refine dh 2 (bZ cx) ?_;refine dh 3 _ ?_;refine pQ 4 ?_;refine pQ 5 ?_;refine pQ 6 ?_;refine pQ 7 ?_;refine pQ 8 ?_;refine pQ 9 ?_;refine pQ 10 ?_;refine pQ 11 ?_;refine pQ 12 ?_;refine pQ 13 ?_;refine pQ 14 ?_;refine pQ 15 ?_;refine dh 16 (bZ cx) ?_;refine qx ?_;go_wp2;go_ret2;exact anC
 |true=>
  rw[C] at t c;rw[cZ eQ] at c;clear C;by_cases d:i<l.n
  . (obtain⟨b,o,rfl⟩:∃b o,ao=s_ b o:=by obtain⟨_,_,e1,_,h⟩:=dP R.o;grind);have⟨p,hp⟩:=dI (l[i]);have⟨B,hB⟩:=fP (cL 3 (dF p));have m:=cz (kE l d (A:=B) (by rw[hp];exact hB));rw[RI d,hp] at c;have⟨e,he⟩:=dI (decide (p=q));have I:=F8 p q e he;rw[dk hB,dk Q.o] at I;have M:=cz I;have L:=cz hB;clear I hB hp;cases e with|true=>have f:Hid (rF l q=cw):=cz (by rw[c.o,df ⟨d,l6 he⟩]);clear he;refine eu S dC λW S=>?_;refine dh 0 (bV A) ?_;refine kI 1 λK s=>?_;go_wp2_with fail;refine je S (t.o _) λW S=>?_;refine gq s ?_;refine dh 2 (bZ cy) ?_;refine dh 3 _ ?_;refine dh 4 _ ?_;refine dh 5 (bX (s_ b o) l.n cap) ?_;refine dh 6 (bU cq l.n) ?_;refine gZ 7 (bZ cx) ae (Or.inl ⟨dC,λw F=>by have E:(i:Int)<(l.n:Int):=cN;go_simp⟩) ?_;refine dh 8 _ ?_;refine dh 9 (bX (s_ b o) l.n cap) ?_;refine dh 10 _ ?_;refine dh 11 (dE b (o+i*3)) ?_;refine gZ 12 (bV B) ae (ySl (λw h=>by obtain⟨_,S⟩:=h;exact R.o.cP S.b) d ae (vu L) m.o fK) ?_;refine dh 13 (bV A) ?_;refine gZ 14 (bZ cx) ae (Or.inl ⟨dC,λw F=>by have E:=M.o;go_simp⟩) ?_;refine dh 15 (bZ cx) ?_;refine dh 16 (bZ cx) ?_;refine qx ?_;go_wp2;go_ret2;exact anC|false=>have f:Hid (rF l q=cu (l.take i++q::l.drop i)):=cz (by rw[c.o,cZ (λh=>yw he h.2)]);clear he;refine eu S dC λW S=>?_;refine dh 0 (bV A) ?_;refine kI 1 λK s=>?_;go_wp2_with fail;refine je S (t.o _) λW S=>?_;refine gq s ?_;refine dh 2 (bZ cy) ?_;refine dh 3 _ ?_;refine dh 4 _ ?_;refine dh 5 (bX (s_ b o) l.n cap) ?_;refine dh 6 (bU cq l.n) ?_;refine gZ 7 (bZ cx) ae (Or.inl ⟨dC,λw F=>by have E:(i:Int)<(l.n:Int):=cN;go_simp⟩) ?_;refine dh 8 _ ?_;refine dh 9 (bX (s_ b o) l.n cap) ?_;refine dh 10 _ ?_;refine dh 11 (dE b (o+i*3)) ?_;refine gZ 12 (bV B) ae (ySl (λw h=>by obtain⟨_,S⟩:=h;exact R.o.cP S.b) d ae (vu L) m.o fK) ?_;refine dh 13 (bV A) ?_;refine gZ 14 (bZ cy) ae (Or.inl ⟨dC,λw F=>by have E:=M.o;go_simp⟩) ?_;refine dh 15 (bZ cy) ?_;refine dh 16 (bZ cy) ?_;refine qx ?_;go_wp2_with (first|refine J9 S (n:=l.n+1) gX rfl (by rw[Int.natCast_add];rfl) cN xZ rfl rfl λg W S=>?_|refine Uv EI ae ae (iE a j) ?_|refine Gq S 0 rfl (by':=24) rfl rfl (c8.take (R.o.cP S.b) a) gX (by rw[EF];exact oO _) CK xZ λX W S=>?_|refine tA S 0 rfl 0 rfl rfl rfl rfl gX (dJ _) CK xZ λx u W S=>?_|refine zi EI ae ae a ?_|refine Gq S 0 rfl (by':=24) ani rfl (c8.CU (R.o.cP S.b) a) gX (by rw[EH];exact oO _) CK xZ λY W S=>?_|refine fL ?_|refine fg λW S=>?_);go_ret2;exact anD
  . have f:Hid (rF l q=cu (l.take i++q::l.drop i)):=cz (by rw[c.o,cZ (λh=>d h.1)]);refine eu S dC λW S=>?_;refine dh 0 (bV A) ?_;refine kI 1 λK s=>?_;go_wp2_with fail;refine je S (t.o _) λW S=>?_;refine gq s ?_;refine dh 2 (bZ cy) ?_;refine dh 3 _ ?_;refine dh 4 _ ?_;refine dh 5 (bX ao l.n cap) ?_;refine dh 6 (bU cq l.n) ?_;refine gZ 7 (bZ cy) ae (Or.inl ⟨dC,λw F=>by have E:¬(i:Int)<(l.n:Int):=cN;go_simp⟩) ?_;refine dh 8 _ ?_;refine pQ 9 ?_;refine pQ 10 ?_;refine pQ 11 ?_;refine pQ 12 ?_;refine pQ 13 ?_;refine pQ 14 ?_;refine dh 15 (bZ cy) ?_;refine dh 16 (bZ cy) ?_;refine qx ?_;go_wp2_with (first|refine J9 S (n:=l.n+1) gX rfl (by rw[Int.natCast_add];rfl) cN xZ rfl rfl λg W S=>?_|refine Uv EI ae ae (iE a j) ?_|refine Gq S 0 rfl (by':=24) rfl rfl (c8.take (R.o.cP S.b) a) gX (by rw[EF];exact oO _) CK xZ λX W S=>?_|refine tA S 0 rfl 0 rfl rfl rfl rfl gX (dJ _) CK xZ λx u W S=>?_|refine zi EI ae ae a ?_|refine Gq S 0 rfl (by':=24) ani rfl (c8.CU (R.o.cP S.b) a) gX (by rw[EH];exact oO _) CK xZ λY W S=>?_|refine fL ?_|refine fg λW S=>?_);go_ret2;exact anD
def okC(c:Nat):Bool:=decide (97<=c/\c<=122)||decide (48<=c/\c<=57)||decide (c=45)||decide (c=95)
def eo(s:fF):Bool:=decide (1<=s.s/\s.s<=24)&& (range s.s).all λk=>okC s[k]!.toNat
theorem Hg(a:k<s.s)(h:okC s[k]!.toNat=cy):eo s=cy:=by unfold eo;grind
def Gs(w:cS)(s:fF)(p:Nat):dR w (w.iter s p):=(gJ _ _).alloc (eN _) _
def tB (s:fF)(w:cS):tf 126 #[.string s] w (.bool (eo s)):=by
 by_cases h1:s.size<1
 . have hn:Hid (eo s=false):=cz (by unfold eo;rw[jG cN];rfl);have g1: (s.size:Int)<1:=cN;go_enter func126,ntmps126;go_wp2;go_ret;exact⟨by rw[hn.o];rfl,gJ _ _⟩
 by_cases h2:24<s.size
 . have hn:Hid (eo s=false):=cz (by unfold eo;rw[jG cN];rfl);have g1: ¬(s.size:Int)<1:=cN;have g2: (24:Int)< (s.size:Int):=cN;go_enter func126,ntmps126;go_wp2;go_ret;exact⟨by rw[hn.o];rfl,gJ _ _⟩
 have g1: ¬(s.size:Int)<1:=cN;have g2: ¬(24:Int)< (s.size:Int):=cN;have hb:=cz (And.intro h1 h2);clear h1 h2;go_enter func126,ntmps126;go_wp2
 go_loopw [] (λwr=>∃pos:Nat,pos<=s.size/\wr=w.iter s pos/\Hid (∀j,j<pos->okC s[j]!.toNat=true)) (λwr=>s.size - wr.iterPos w.heap.size)
 case atStart=>exact⟨0,cN,rfl,λj hj=>absurd hj (wQ _)⟩
 case round=>
  obtain⟨pos,hpl,rfl,hS⟩:=hrel;by_cases hp:pos<s.size
  . have hnx: ∀ty,(Instr.next (dE w.heap.size 0) true ty).run prog (w.iter s pos)=_:=λty=>run_next_any w s pos ty hp;obtain⟨c,hc⟩:=dI (s[pos]!.toNat);have hcg: (s[pos]'hp).toNat=c:=by rw[<-hc,getElem!_pos s pos hp]
    by_cases ha:c<128
    . rw[decode_ascii s pos hp (by rw[hcg];exact ha)] at hnx;rw[hcg] at hnx;cases ho:okC c with
      | true=>
       have hS2:Hid (∀j,j<pos+1->okC s[j]!.toNat=true):=cz λj hj=>by
        rcases Di.1 hj with h | rfl
        . exact hS.o j h
        . rw[hc];exact ho
       clear hcg hc;unfold okC at ho;simp only[Bool.or_eq_true,qS] at ho;have HO:=cz ho;clear ho;go_wp2
       all_goals first
        |(go_roundw
          case rel=>exact⟨pos+1,cN,rfl,hS2⟩
          case measure=>simp;omega)
        |(exfalso;have ho:=HO.o;simp only[lR,ne_eq] at*;omega)
      | false=>
       have hn:Hid (eo s=false):=cz (Hg hp (by rw[hc];exact ho));clear hcg hc;unfold okC at ho;simp only[Bool.or_eq_false_iff,QV] at ho;have HO:=cz ho;clear ho;go_wp2
       all_goals first|(go_ret;exact⟨by rw[hn.o];rfl,Gs _ _ _⟩)|(exfalso;have ho:=HO.o;simp only[xL] at*;omega)
    . have hd:=(decode_high s pos hp (by rw[hcg];omega)).1;have hn:Hid (eo s=false):=cz (Hg hp (by rw[hc];unfold okC;simp;omega));generalize Utf8.decode s pos=x at hnx hd;obtain⟨r,u⟩:=x;simp only at hnx hd;clear hcg hc;go_wp2
      all_goals first|(go_ret;exact⟨by rw[hn.o];rfl,Gs _ _ _⟩)
  . obtain rfl:pos=s.size:=cN;have hnx: ∀ty,(Instr.next (dE w.heap.size 0) true ty).run prog (w.iter s s.size)=_:=λty=>run_next_end w s s.size ty hp;have hn:Hid (eo s=true):=cz (by
     unfold eo;rw[wN,rz];refine⟨gM (by have:=hb.o;omega),λk hk=>hS.o k (yo.1 hk)⟩)
    go_wp2;go_ret;exact⟨by rw[hn.o];rfl,Gs _ _ _⟩
def yh:fF:=⟨#[64]⟩
def sG:fF:=⟨#[]⟩
def kX(ir dz:fF):fF:=
 if eo ir=cy then sG else if dz=sG then ir else if eo dz=cy then sG else ir++yh++dz
theorem kF{s:fF}(h:eo s=cx):s.s<=24:=by simp_all[eo]
theorem Ba(h:s≠sG):s.toList.isEmpty=false:=by rw[DL,Lq];intro a;apply h;have⟨d⟩:=s;grind[sG]
theorem Hh(ir dz:fF)(j:dz.s<=1000)(w:cS):tf 104 #[bY ir,bY dz] w (bY (kX ir dz)):=by
 have c:=cz λw=>tB ir w;have f:=cz λw=>tB dz w;have S:=qR w;cases a:eo ir with
 |false=>rw[a] at c;have b:Hid (kX ir dz=sG):=cz (by unfold kX;rw[df a]);clear a;go_enter func104,ntmps104;go_wp2_with (go_at_call 126;refine je S (c.o _) λW S=>?_);go_ret;exact ana
 |true=>
  rw[a] at c;by_cases d:dz=sG
  . have b:Hid (kX ir dz=ir):=cz (by unfold kX;rw[cZ (by rw[a];simp),df d]);subst d;clear a;unfold sG;go_enter func104,ntmps104;go_wp2_with (go_at_call 126;refine je S (c.o _) λW S=>?_);go_ret;exact⟨by rw[show kX ir ⟨#[]⟩=ir from b.o];rfl,S.b⟩
  . have i:=Ba d;cases e:eo dz with|false=>rw[e] at f;have b:Hid (kX ir dz=sG):=cz (by unfold kX;rw[cZ (by rw[a];simp),cZ d,df e]);clear a e d;go_enter func104,ntmps104;go_wp2_with (first|(go_at_call_has 126 dz;refine je S (f.o _) λW S=>?_)|(go_at_call 126;refine je S (c.o _) λW S=>?_));go_ret;exact ana|true=>(rw[e] at f;have b:Hid (kX ir dz=ir++yh++dz):=cz (by unfold kX;grind);have g:¬9223372036854775807<ir.s+1:=by have:=kF a;omega);(have h:¬9223372036854775807<ir.s+1+dz.s:=by have:=kF a;have:=kF e;omega);clear a e d;go_enter func104,ntmps104;go_wp2_with (first|(go_at_call_has 126 dz;refine je S (f.o _) λW S=>?_)|(go_at_call 126;refine je S (c.o _) λW S=>?_));go_ret;exact ana
def OQ(s:fF)(c:Int)(w:cS):CP_ 263 #[bY s,bU .u8 c] w λe w'=>e=cj (bU cq (firstIdx s c.m.toUInt8))/\w=w':=by
 have a:∀w,(callFunc 282 #[bY s,bU .u8 c]).run prog w=.ok (.value (bU cq (firstIdx s c.m.toUInt8))) w:=by intro w;rw[run_callFunc_extern func282 dC dC dC (e:=Extern.BytealgIndexByte.indexByte) dC,run_indexByte_string];rfl
 generalize firstIdx s c.m.toUInt8=r at a|-;go_enter func263,ntmps263;go_wp2;go_ret;exact aE
def atIdx(s:fF):Int:=firstIdx s 64
theorem XN:atIdx yh=0:=by rfl
theorem abh(h:s≠yh):([(64:UInt8)]==s.toList)=false:=by rw[DL,lR];intro a;apply h;simp_all[yh]
def abi(s:fF)(w:cS):CP_ 231 #[bY s,bY yh] w λe w'=>e=cj (bU cq (atIdx s))/\w=w':=by
 by_cases b:s=yh
 . subst b;rw[XN];unfold yh;go_enter func231,ntmps231;go_wp2_with fail;(all_goals go_ret);all_goals exact aE
 . have a:=cz λw=>OQ s 64 w;rw[show firstIdx s (64:Int).m.toUInt8=atIdx s from ae] at a;generalize atIdx s=r at a|-;have c:=abh b;clear b;unfold yh;go_enter func231,ntmps231;go_wp2_with (go_at_call 263;refine mY (a.o _) ?_);go_ret;exact aE
theorem Uy(s:fF): -1<=atIdx s/\atIdx s<(s.s:Int):=by grind[atIdx,firstIdx]
def x5(s:fF):fF×fF×Bool:=
 if 0<=atIdx s then(s.extract 0 (atIdx s).m,s.extract ((atIdx s).m+1) s.s,cx) else(s,sG,cy)
def XO(s:fF)(j:s.s<=140737488355328)(w:cS):tf 174 #[bY s,bY yh] w (cg #[bY (x5 s).1,bY (x5 s).2.1,bZ (x5 s).2.2]):=by
 have b:=cz λw=>abi s w;have d:=Uy s;have S:=qR w;by_cases a:0<=atIdx s
 . obtain⟨i,hi⟩:∃i:Nat,atIdx s=i:=⟨(atIdx s).m,cN⟩;have c:Hid (x5 s=(s.extract 0 i,s.extract (i+1) s.s,cx)):=cz (by unfold x5;rw[df a,hi];rfl);have f:i<s.s:=cN;rw[hi] at b;clear d a hi;unfold yh at b|-;go_enter func174,ntmps174;go_upto_region 3 with(go_at_call 231;refine mY (b.o _) ?_);refine eu S dC λW S=>?_;refine dh 0 _ ?_;refine dh 1 _ ?_;refine gZ 2 (bY (s.extract 0 i)) ae (Or.inl ⟨dC,λw e=>by have a:i<=s.s:=cN;go_simp⟩) ?_;refine dh 3 _ ?_;refine dh 4 _ ?_;refine dh 5 _ ?_;refine dh 6 (bU cq 1) ?_;refine gZ 7 (bU cq ((i:Int)+1)) ae (Or.inl ⟨dC,λw e=>by have a:IntKind.i64.wrap ((i:Int)+1)=(i:Int)+1:=kS _ cN;go_simp⟩) ?_;refine gZ 8 (bY (s.extract (i+1) s.s)) ae (Or.inl ⟨dC,λw e=>by have a:¬((s.s:Int)<(i:Int)+1):=cN;have g:((i:Int)+1).m=i+1:=cN;have h:¬((i:Int)+1<0):=cN;go_simp⟩) ?_;refine dh 9 _ ?_;refine dh 10 _ ?_;refine dh 11 _ ?_;refine qx ?_;go_wp2;go_ret3;exact anb
 . have c:Hid (x5 s=(s,sG,cy)):=cz (by unfold x5;rw[cZ a]);have hi:atIdx s= -1:=cN;rw[hi] at b;clear d a hi;unfold yh at b|-;go_enter func174,ntmps174;go_wp2_with (go_at_call 231;refine mY (b.o _) ?_);go_ret3;exact anb
def XP(s:fF)(e:s.s<=140737488355328)(w:cS):tf 125 #[bY s,bY yh] w (cg #[bY (x5 s).1,bY (x5 s).2.1,bZ (x5 s).2.2]):=by have d:=cz (XO s e);obtain⟨⟨a,b,c⟩,hc⟩:∃x,x5 s=x:=⟨_,ae⟩;rw[hc] at d|-;clear hc;have S:=qR w;go_enter func125,ntmps125;go_wp2_with (go_at_call 174;refine je S (d.o _) λW S=>?_);go_ret3;exact az
def eO(s:fF):Option (fF×fF):=
 if eo (x5 s).1=cy∨((x5 s).2.2=cx/\eo (x5 s).2.1=cy) then cw else cu ((x5 s).1,(x5 s).2.1)
def tC(s:fF)(h:s.s<=140737488355328)(w:cS):tf 63 #[bY s] w (cg #[bY ((eO s).getD (sG,sG)).1,bY ((eO s).getD (sG,sG)).2,bU cq (gi 141 (eO s))]):=by
 have e:=cz (XP s h);unfold yh at e;obtain⟨⟨a,b,c⟩,hc⟩:∃x,x5 s=x:=⟨_,ae⟩;have d:eO s=if eo a=cy∨(c=cx/\eo b=cy) then cw else cu (a,b):=by unfold eO;rw[hc]
 rw[hc] at e;clear hc;have f:=cz λw=>tB a w;have g:=cz λw=>tB b w;have S:=qR w;rcases ha:eo a with _|_;rw[ha] at f;rw[df (.inl ha)] at d;rotate_left;rw[ha] at f d;rcases c with _|_;rw[cZ eQ] at d;rotate_left
 . rcases hb:eo b with _|_;rotate_left
   all_goals
    rw[hb] at g d
    first|rw[df amv] at d|rw[cZ eQ] at d
    rw[d];clear ha hb d;go_enter func63,ntmps63
    go_wp2_with first|(go_at_call 125;refine je S (e.o _) λW S=>?_)|(go_at_call_has 126 a;refine je S (f.o _) λW S=>?_)|(go_at_call 126;refine je S (g.o _) λW S=>?_)
    go_ret3;exact az
 all_goals
  rw[d];clear ha d;go_enter func63,ntmps63
  go_wp2_with first|(go_at_call 125;refine je S (e.o _) λW S=>?_)|(go_at_call 126;refine je S (f.o _) λW S=>?_)
  go_ret3;exact az
end
structure vB(Y:cV->cS->Prop):Prop where
 cP:∀{B w w'},Y B w->dR w w'->Y B w'
 add:∀{B w b},Y B w->w.h.s<=b->Y (b::B) w
 mono:∀{B B' w},Y B w->(∀k∈B',k∈B)->Y B' w
 but:∀{B w w' b},Y B w->b∈B->jX b w w'->Y B w'
 fr:∀{B w w' d l},Y B w->Fr d l w w'->Y B w'
def fE(e:dU)(z:Nat)(v:c7)(n:Nat)(xs:List c7)(d:lS e=cy)(g:gV e=cy):vB (yX e z v n xs):=
 ⟨λa b=>P' a b,λa b=>Zf a b,λa b=>Ue a b,λa b c=>Ze a b c,λa f=>adQ a f d g⟩
def vB.and{Z:cV->cS->Prop}(h:vB Y)(g:vB Z):vB (λB w=>Y B w/\Z B w):=
 ⟨λa b=>⟨h.cP a.1 b,g.cP a.2 b⟩,λa b=>⟨h.add a.1 b,g.add a.2 b⟩,λa b=>⟨h.mono a.1 b,g.mono a.2 b⟩,λa b c=>⟨h.but a.1 b c,g.but a.2 b c⟩,λa f=>⟨h.fr a.1 f,g.fr a.2 f⟩⟩
def Jo(s:List α){Y:α->cV->cS->Prop}(h:∀x∈s,vB (Y x)):vB (λB w=>∀x∈s,Y x B w):=
 ⟨λa b x d=>(h x d).cP (a x d) b,λa b x d=>(h x d).add (a x d) b,λa b x d=>(h x d).mono (a x d) b,λa b c x d=>(h x d).but (a x d) b c,λa f x d=>(h x d).fr (a x d) f⟩
def lO.still(h:lO d X)(g:vB Y):lO d (λB w=>X B w/\Y B w):=
 ⟨λa b=>⟨h.cP a.1 b,g.cP a.2 b⟩,λa b=>⟨h.add a.1 b,g.add a.2 b⟩,λa b=>⟨h.mono a.1 b,g.mono a.2 b⟩,λa b c t u v=>⟨h.but a.1 b c t u v,g.but a.2 b c⟩,λa e=>h.dev a.1 e⟩
def vB.mh(g:vB Y):lO cw Y:=⟨λa b=>g.cP a b,λa b=>g.add a b,λa b=>g.mono a b,λa b c _ _ _=>g.but a b c,λ_ e=>by cases e⟩
structure dw where
 id:Nat
 name:fF
 dz:Bool
 cY:Nat
 dB:Nat
 cR:Nat
 blocks:Nat
 cO:cQ
 di:List cQ
structure dL extends dw where
 dZ:Option Addr
 cap:Nat
def dL.dv(x:dL):c7:=bX x.dZ x.di.n x.cap
def iw(x:dL):Nat->c7:=λi=>if i=0 then bU ct x.id else if i=1 then bY x.name else if i=2 then bZ x.dz else if i=3 then bU ct x.cY else if i=4 then bU ct x.dB else if i=5 then bU ct x.cR else if i=6 then bU cq x.blocks else if i<10 then dF x.cO (i-7) else x.dv
theorem mI(x:dL):∀i,(iw x i).oneCell'=cx:=by
 intro i;unfold iw;repeat' split
 all_goals first|rfl|exact dJ _ _
instance in0da92(x:dL):OF (iw x):=⟨mI x⟩
instance in45727(x:dL):CV (iw x) 0 (bU ct x.id):=⟨rfl⟩
instance ine4247(x:dL):CV (iw x) 1 (bY x.name):=⟨rfl⟩
instance in84358(x:dL):CV (iw x) 2 (bZ x.dz):=⟨rfl⟩
instance ina7f67(x:dL):CV (iw x) 3 (bU ct x.cY):=⟨rfl⟩
instance in452fc(x:dL):CV (iw x) 4 (bU ct x.dB):=⟨rfl⟩
instance inc831e(x:dL):CV (iw x) 5 (bU ct x.cR):=⟨rfl⟩
instance in21e4d(x:dL):CV (iw x) 6 (bU cq x.blocks):=⟨rfl⟩
instance in2b210(x:dL):CV (iw x) 10 (bX x.dZ x.di.n x.cap):=⟨rfl⟩
def Uz(x:dL):List c7:=(cL 11 (iw x)).t
theorem Bb(x:dL):(Uz x).n=11:=by rfl
def jh(l:List dL):List c7:=l.flatMap Uz
theorem oz(l:List dL):(jh l).n=l.n*11:=xk Bb l
theorem xl(l m:List dL):jh (l++m)=jh l++jh m:=by grind[jh]
theorem UA(x:dL):jh [x]=Uz x:=by rfl
theorem abj(l:List dL):∀u∈jh l,u.oneCell'=cx:=by
 intro u a;unfold jh at a;obtain⟨p,_,h⟩:=Dh.1 a;unfold Uz at h;obtain⟨i,hi,rfl⟩:=vJ.1 h;rw[Array.getElem_toList];have b:(cL 11 (iw p))[i]?=cu (iw p i):=by rw[dy,df aG]
 grind[mI]
def zj(w:cS)(x:dL):Prop:=lk w x.dv x.di
def gu(w:cS)(v:c7)(l:List dL):Prop:=c8 w 109 11 v l.n (jh l)/\∀x∈l,zj w x
def J'(x:dL):cV->cS->Prop:=yX 106 3 x.dv x.di.n (iS x.di)
def rY(v:c7)(l:List dL):cV->cS->Prop:=λB w=>yX 109 11 v l.n (jh l) B w/\∀x∈l,J' x B w
def Ci(x:dL):vB (J' x):=fE 106 3 _ _ _ ae ae
def fN(v:c7)(l:List dL):vB (rY v l):=(fE 109 11 v _ _ ae ae).and (Jo l λx _=>Ci x)
theorem rY.sl{l:List dL}(h:rY v l B w):gu w v l:=⟨h.1.1,λx a=>(h.2 x a).1⟩
theorem gu.x{l:List dL}(h:gu w v l):rY v l [] w:=⟨⟨h.1,λ_ _ _=>by simp⟩,λx a=>⟨h.2 x a,λ_ _ _=>by simp⟩⟩
theorem gu.cP{l:List dL}(h:gu w v l)(s:dR w w'):gu w' v l:=((fN v l).cP h.x s).sl
theorem gu.fr{d:Option Nat}{b:cV}{w w':cS}{v:c7}{l:List dL}(h:gu w v l)(s:Fr d b w w'):gu w' v l:=((fN v l).fr h.x s).sl
def sH(w:cS)(base:Nat)(x:dL):Prop:=zj w x/\(0<x.di.n->∀b,x.dv.ownBlock=cu b->base<=b)
def sH.of{x:dL}(h:il w base x.dv x.di):sH w base x:=
 ⟨h.sl,λ_ b a=>(h.lt b a).1⟩
theorem sH.x{x:dL}(h:sH w w0.h.s x)(a:∀b∈B,b<w0.h.s):J' x B w:=
 ⟨h.1,λe b c d=>ud _ (QW (h.2 e b c) (a b d))⟩
def Cj(w:cS)(base:Nat)(v:c7)(l:List dL):Prop:=w.ownsRow base 109 11 v l.n (jh l)/\∀x∈l,sH w base x
theorem Cj.sl{l:List dL}(h:Cj w base v l):gu w v l:=⟨c8.jR h.1,λx a=>(h.2 x a).1⟩
theorem nD(l:List dL)(hi:i<l.n){A:gE}(a:A=cL 11 (iw l[i])):∀j,j<11->(jh l)[i*11+j]?=A[j]?:=by intro j b;rw[a];unfold jh;rw[flat_get Bb l hi b];grind[Uz]
def nE(w:cS)(b o:Nat)(x:dL):Prop:=∀k,k<11->w.cell? ⟨b,o+k,cw⟩=cu (iw x k)
theorem c8.cellAt{b o:Nat}(h:c8 w e z (bX (cu ⟨b,o,cw⟩) n cap) n xs){u:c7}(f:0<n)(g:xs[j]?=cu u):w.cell? ⟨b,o+j,cw⟩=cu u:=by obtain⟨_,ao,a,c,_,_,d⟩:=h;have⟨b',o',cs,fl,e1,hh,hc⟩:=d f;simp only[ly] at c;obtain⟨rfl,-,-⟩:=c;cases e1<;>grind[cell_of_row]
theorem gu.at{b o:Nat}{l:List dL}(h:gu w (bX (cu ⟨b,o,cw⟩) n cap) l){x:dL}(f:l[i]?=cu x):nE w b (o+i*11) x:=by
 intro k d;obtain⟨hi,rfl⟩:=nB.1 f;have c:=h.1;obtain⟨_,ao,a,g,_⟩:=id c;have e:n=l.n:=by grind
 subst e;rw[FT];exact c.cellAt cN (by rw[nD l hi ae k d,dy,df d])
theorem nE.cP{b o:Nat}{x:dL}(h:nE w b o x)(c:dR w w'):nE w' b o x:=λk a=>c.cell (rQ (h k a)) |>.trans (h k a)
section
variable {b o:Nat}{x:dL}
def nE.c0(h:nE w b o x):w.cell? ⟨b,o,cw⟩=cu (.int ct x.id):=h 0 cN
theorem nE.c1(h:nE w b o x):w.cell? ⟨b,o+1,cw⟩=cu (.string x.name):=h 1 cN
theorem nE.c2(h:nE w b o x):w.cell? ⟨b,o+2,cw⟩=cu (.bool x.dz):=h 2 cN
theorem nE.c3(h:nE w b o x):w.cell? ⟨b,o+3,cw⟩=cu (.int ct x.cY):=h 3 cN
theorem nE.c4(h:nE w b o x):w.cell? ⟨b,o+4,cw⟩=cu (.int ct x.dB):=h 4 cN
def nE.c5(h:nE w b o x):w.cell? ⟨b,o+5,cw⟩=cu (.int ct x.cR):=h 5 cN
def nE.c6(h:nE w b o x):w.cell? ⟨b,o+6,cw⟩=cu (.int cq x.blocks):=h 6 cN
def nE.c10(h:nE w b o x):w.cell? ⟨b,o+10,cw⟩=cu x.dv:=h 10 cN
end
def lF:Option Nat->Int
 |none=>-1
 |some k=>(k:Int)
def fj(l:List dw)(id:Nat):Option Nat:=l.findIdx? λx=>decide (x.id=id)
def eM(l:List dL):List dw:=l.map dL.todw
theorem mZ(l:List dL)(k:Nat):(eM l)[k]?=l[k]?.map dL.todw:=by grind[eM]
theorem iu(l:List dL):(eM l).n=l.n:=by grind[eM]
theorem Ck{p:α->Bool}{l:List α}{x:α}(c:l[k]?=cu x)(b:p x=cx)(a:∀(j:Nat)y,l[j]?=cu y->j<k->p y=cy):l.findIdx? p=cu k:=by rw[IZ];grind
theorem Cl{p:α->Bool}{l:List α}(c:∀(j:Nat)y,l[j]?=cu y->j<l.n->p y=cy):l.findIdx? p=cw:=by rw[findIdx?_eq_none_iff];intro x a;obtain⟨j,b,rfl⟩:=vJ.1 a;grind
theorem Ka{p:α->Bool}{l:List α}(h:l.findIdx? p=cu k):∃x,l[k]?=cu x/\p x=cx:=by grind[findIdx?_eq_some_iff_getElem]
section
attribute[local irreducible]wpList Code.wp Calls Oper.wp wpAnyH
def uk(l:List dL)(v:c7)(id:Nat)(t:l.n<=1000000)(w:cS)(R:gu w v l):tf 103 #[v,bU ct id] w (bU cq (lF (fj (eM l) id))):=by
 obtain⟨ao,cap,rfl,p,a⟩:=dP R.1;have S:=cz (qR w);go_enter func103,ntmps103;go_upto_region 2 with(fail);go_loopw [8] (λi wr=>∃k:Nat,k<=l.n/\i=bU cq k/\Hid ((∀(j:Nat)y,(eM l)[j]?=cu y->j<k->decide (y.id=id)=cy)/\St w cw [] [] [] (λ_ _=>True) wr)) (λi _=>l.n-(intOf i).m);exact amm;clear S;obtain⟨k,s,rfl,hS⟩:=hrel;by_cases d:k<l.n
 . obtain⟨b,o,rfl⟩:=a cN;obtain⟨x,f⟩:∃x,l[k]?=cu x:=⟨_,jE d⟩;have n:=cz ((R.cP hS.o.2.fr.cP).at f);have m:=cz f;clear f;rcases BG (x.id=id) with rfl|he
   . go_wp2_with (with_reducible refine jo 15 82 14 n.o.c0 ?_);go_ret;have e:fj (eM l) x.id=cu k:=Ck (by rw[mZ,m.o];rfl) (gM ae) hS.o.1;exact amR
   . have q:¬((x.id:Nat):Int)=(id:Nat):=cN;go_wp2_with (with_reducible refine jo 15 82 14 n.o.c0 ?_);go_roundw;refine⟨k+1,cN,by go_num,cz ⟨λj y g r=>?_,hS.o.2⟩⟩;by_cases c:j=k;subst c;rw[mZ,m.o] at g;cases g;exact jG he;exact hS.o.1 j y g cN;exact pR
 . obtain rfl:k=l.n:=cN;go_wp2;go_ret;have e:fj (eM l) id=cw:=Cl (by rw[iu];exact hS.o.1);exact amR
end
section
variable {P:oN}
variable {x:Nat}
theorem dx(h:w.ownsRow base e z v n xs):∃ao c,v=bX ao n c:=by rcases h.2 with⟨rfl,rfl⟩|⟨g,cap,cur,rfl,_⟩<;>grind
theorem aeb(S:St w0 d l L O X w)(j:Nat){o:O4}(m:O[j]?=cu o){t:dU}{r:Operand}(D:a.eval q=o.v)(E:a.eval r=v)(R:c8 w T o.z v n xs)(ht:xi P t o.e o.z by')(H:∀u∈xs,u.oneCell'=cx)(Z:(o.n+n)*by'<=140737488355328)(Y:o.n+n<=maxLen)(h:∀ao c W,St w0 d l L (O.set j ⟨o.e,o.z,bX ao (o.n+n) c,o.n+n,o.xs++xs⟩) X W->K (a.put (cu dst) (bX ao (o.n+n) c)) W):
 Oper.wp P ⟨cu dst,.call {callee:=.builtin .append,args:=#[q,r],argTypes:=#[t,t]},t2,p,af,cw⟩ a w K Q:=by
 have y:j<O.n:=(nB.1 m).1;have C:∀v' W,St w0 d l L (O.set j ⟨o.e,o.z,v',o.n+n,o.xs++xs⟩) X W->K (a.put (cu dst) v') W:=λv' W hS=>by obtain⟨ao,c,hv⟩:=dx (hS.uS (k:=j) (by rw[BI,df ae,df y]));grind
 have⟨hu,zv,hi,hz,h0⟩:=ht;have⟨it,hi1,hz0,hz1,hz2⟩:=oG hi;obtain⟨V,ao,cap,rfl,I,J,x⟩:=R;by_cases z:n=0;(subst z;have A:xs=[]:=yr cN;subst A;unfold Oper.wp execOp;simp only[resolve,invoke,builtin,lh,rR,nW,map_toArray,yq,map_nil,D,E,CM (P:=P) w w0.h.s t t2 o.e it o.z hu hi1 o.v o.n o.xs (S.uS m) ao cap];refine C _ _ ?_;rw[xJ,wR];have e1:O.set j ⟨o.e,o.z,o.v,o.n,o.xs⟩=O:=by apply xK;simp_all[BI]);grind;obtain⟨b,e,F,G,rfl,U,M⟩:=x cN;refine wp_append_lies w q r t ae w0.h.s o.e it zv o.z by' hu hi1 hz0 hz1 hz2 hz h0 o.v o.n o.xs D (S.uS m) ⟨b,e,cw⟩ n cap xs E V (λi u a1=>?_) H cN Y Z S.fr.size _ ae λg B w' f N s _=>C _ w' ?_;rw[show(⟨b,e,cw⟩:Addr).add i=⟨b,e+i,cw⟩ from by grind[Addr.add],cell_of_row w b _ F T G U];grind;exact S.grow m N f ae s
def apQ(S:St w0 d l L O X w)(j:Nat){o:O4}(f:O[j]?=cu o){t:dU}{r:Operand}(k:a.eval q=o.v)(s:a.eval r=v)(R:c8 w T o.z v n xs)(m:xi P t o.e o.z by')(b:∀u∈xs,u.oneCell'=cx)(i:(o.n+n)*by'<=140737488355328)(g:o.n+n<=maxLen)(h:∀ao c W,St w0 d l L (O.set j ⟨o.e,o.z,bX ao (o.n+n) c,o.n+n,o.xs++xs⟩) X W->wpList P ops Q rest (a.put (cu dst) (bX ao (o.n+n) c)) W):
 wpList P ops Q (⟨cu dst,.call {callee:=.builtin .append,args:=#[q,r],argTypes:=#[t,t]},t2,p,af,cw⟩::rest) a w:=
 mC ae λ_ e=>aeb S j f k s R m b i g λao c W hS=>e _ _ (h ao c W hS)
def air(dst y:Nat)(h:wpList P ops Q (⟨cu dst,.call {callee:=.builtin .append,args:=#[.const (bX cw 0 0),.tmp y],argTypes:=ts},t2,p,af,cw⟩::rest) a w):wpList P ops Q (⟨cu dst,.call {callee:=.builtin .append,args:=#[.const (bX cw 0 0),.tmp y],argTypes:=ts},t2,p,af,cw⟩::rest) a w:=h
end
def agG:(prog.info? 109).map (·.size)=cu 11:=dC
def uV:kg prog 109 11:=⟨⟨_,underlying109,ae⟩,agG⟩
instance in836a7 :sE 109 11:=⟨uV⟩
def nj:dL:=⟨⟨0,sG,cy,0,0,0,0,cX,[]⟩,cw,0⟩
def pS:(#[bU ct 0,bY ⟨#[]⟩,bZ cy,bU ct 0,bU ct 0,bU ct 0,bU cq 0,bU cq 0,bU ct 0,bU .u32 0,bX cw 0 0]:gE)=cL 11 (iw nj):=rfl
instance in56d2a :ZR 109 11 (iw nj):=⟨_,xO,pS⟩
def tT:lD prog 4:=⟨⟨_,underlying4,ae⟩,dC⟩
instance in6230a :ru 4:=⟨tT⟩
def Gt:lD prog 9:=⟨⟨_,za,ae⟩,dC⟩
instance inf54d0 :ru 9:=⟨Gt⟩
def dL.UB(x:dL)(ao:Option Addr)(c:Nat):dL:=⟨x.todw,ao,c⟩
section
attribute[local irreducible]wpList Code.wp Calls Oper.wp wpAnyH
def UC(x:dL)(A:gE)(a:A=cL 11 (iw x))(f:x.di.n<=1000000)(w:cS)(R:zj w x):
 CP_ 115 #[bV A] w λe w'=>∃(B:gE)(ao:Option Addr)(c:Nat),e=cj (bV B)/\B=cL 11 (iw (x.UB ao c))/\il w' w.h.s (x.UB ao c).dv x.di/\dR w w':=by have d:=cz a;have S:=(qR w).Jl 106 3 ae ae;clear a;go_enter func115,ntmps115;go_wp2_with first|((with_reducible refine air 5 4 ?_);refine apQ S 0 ae ae ae (R.cP S.b) gX (oO _) CK xZ λao c W S=>?_;rw[show(0+x.di.n)=x.di.n from oQ _] at S|-;rw[show([]++iS x.di)=iS x.di from ae] at S)|((with_reducible refine tM 107 6 5 ?_);refine xA S 1 ae 10 (iw (x.UB ao c)) (λj b=>by have b:j<11:=b;rcases j with(_|_|_|_|_|_|_|_|_|_|_|j)<;>first|rfl|omega) rn ae ae ae ox λW S=>?_;have⟨B,HB⟩:=yB (cL 11 (iw (x.UB ao c))))|(refine mA ?_;exact⟨_,_,_,ae,ae,S.o0,S.b⟩)|refine fL ?_|refine fg λW S=>?_
def lW(X:cV->cS->Prop):Prop:=∀B w w' b,X B w->jX b w w'->iA w b=cw->X B w'
theorem lW.t:lW (λ_ _=>True):=λ_ _ _ _ _ _ _=>iG
def lW.and(h:lW X)(g:lW Y):lW (λB w=>X B w/\Y B w):=λ_ _ _ _ c a b=>⟨h _ _ _ _ c.1 a b,g _ _ _ _ c.2 a b⟩
theorem lW.pl(P D M:Nat)(s:Pl):lW (C' P D M s):=λ_ _ _ _ h b a=>by have h:fc _ P D M s:=h;have⟨l,hl⟩:=h.dev.open;refine h.aic b hl (λc=>?_) (λe=>?_) λe=>?_;obtain⟨u,d,_⟩:=hl.ty _ c;grind;rw[e,h.tyP] at a;cases a;rw[e,h.tyM] at a;cases a
theorem Hi{w:cS}{b:Nat}{o:Obj}(h:w.h[b]?=cu o)(hc:o.isCells=cy):iA w b=cw:=by grind[iA,Obj.isCells]
theorem St.obj(S:St w0 d l L O X w){b:Nat}(a:jX b w w')(s:iA w b=cw)(m:w0.h.s<=b)(p:lW X):St w0 d l L O X w':=by
 have c:∀k t,iA w k=cu t->k≠b:=λk t h e=>by grind
 have u:∀D,d=cu D->w'.h[D]?=w.h[D]?:=λD e=>a.block D (iy (S.Wi D e)) (c _ _ (S.Wi D e));refine⟨S.fr.Rh m a,λr q=>?_,λo ho=>?_,S.lo,S.nd,p _ _ _ _ S.x a s,S.mh⟩;have i:=S.row r q;exact⟨cM.but i.1 a (c _ _ (cM.ty i.1)),i.2.1,i.2.2.imp id λf D e=>by grind[sC]⟩;have j:=S.own o ho;refine⟨q7 j.1 (λe=>?_) a,j.2⟩;rcases j.1.2 with⟨n,_⟩|⟨g,cap,cur,n,_,v,_⟩<;>grind[Value.ownBlock,iA]
def uW{b:Nat}(a:w.grownBy w' (some b)):jX b w w':=⟨a.os,a.tape,a.output,a.size,λk d c=>a.block k d (λe=>c (by cases e;rfl))⟩
def zk(a:w.grownBy w' none):dR w w':=⟨a.os,a.tape,a.output,a.size,λk b=>a.block k b (λe=>by cases e)⟩
def rZ{γ:Type}{B:Nat}(b:w0.h.s<=B)(p:β->γ->Prop)(L:β->γ->List R4)(O:β->γ->List O4)(X:β->γ->cV->cS->Prop)(c:∀s y,lW (X s y)):
 OwnFrom B (λs W=>∃y,p s y/\St w0 d l (L s y) (O s y) (X s y) W):=by rintro s W g row ⟨y,e,S⟩ a f;refine⟨y,e,?_⟩;cases row with|none=>exact S.cP (zk a)|some r=>have⟨hB,o,ho,hc⟩:=f r ae;exact S.obj (uW a) (Hi ho hc) (iE b hB) (c s y)
structure np(bs:cV)(W W':cS):Prop where
 cP:Below 0 W W'
 same:∀k∈bs,W'.h[k]?=W.h[k]?
theorem np.trans{bs:cV}{A B C:cS}(h:np bs A B)(k:np bs B C):np bs A C:=⟨h.cP.trans k.cP,λi hi=>(k.same i hi).trans (h.same i hi)⟩
theorem np.refl(bs:cV)(W:cS):np bs W W:=⟨gJ _ _,λ_ _=>ae⟩
def np.wV(c:∀k∈bs,k<n)(W:cS)(l:Nat)(o o':Obj)(b:n<=l)(_:W.h[l]?=cu o)(_:o.isCells=cy)(_:o.isWalk=cy):np bs W (W.putObj l o'):=
 ⟨⟨ae,ae,ae,by simp,λk a=>absurd a (wQ _)⟩,λk a=>World.putObj_heap_other jv⟩
def Tg(bs:cV):cV->cS->Prop:=λB w=>∀k∈bs,k∉B/\∃t,iA w k=cu t/\lS t=cy/\gV t=cy
def UD{t:dU}(h:iA w k=cu t)(a:dR w w'):iA w' k=cu t:=by rw[wA (a.block k (iy h))];exact h
theorem Zp{d:Option Nat}{l:cV}{w w':cS}{k:Nat}{t:dU}(f:Fr d l w w')(h:iA w k=cu t)(a:lS t=cy)(b:gV t=cy):w'.h[k]?=w.h[k]?:=
 f.block k (iy h) (by
  grind[PU])
theorem kG(bs:cV):vB (Tg bs):=
 ⟨λh g k a=>⟨(h k a).1,let⟨t,c,h2⟩:=(h k a).2;⟨t,UD c g,h2⟩⟩,
  fun {B w b} h g k a=>⟨λd=>by
   rcases iZ.1 d with e|d
   . obtain⟨_,t,c,_⟩:=h k a;have:=iy c;omega
   . exact(h k a).1 d,(h k a).2⟩,
  λh d k a=>⟨λi=>(h k a).1 (d k i),(h k a).2⟩,
  fun {B w w' b} h hB g k a=>⟨(h k a).1,let⟨t,c,h2⟩:=(h k a).2;⟨t,by rw[wA (g.block k (iy c) (λe=>(h k a).1 (e▸hB)))];exact c,h2⟩⟩,
  λh f k a=>⟨(h k a).1,let⟨t,c,h2,h3⟩:=(h k a).2;⟨t,by grind[wA,Zp],h2,h3⟩⟩⟩
theorem lW.av(bs:cV):lW (Tg bs):=λ_ _ _ _ h b c k a=>⟨(h k a).1,let⟨t,h1,h2⟩:=(h k a).2;⟨t,by rw[wA (b.block k (iy h1) (λe=>by grind))];exact h1,h2⟩⟩
def LU(bs:cV)(W:cS):cV->cS->Prop:=λB w=>Tg bs B w/\KeepsOthers W w/\np bs W w
def Hj(a:dR w w'):KeepsOthers w w':=⟨a.s,λk o b _=>(a.block k (rN.1 b).1).trans b⟩
theorem KR{b:Nat}{t:dU}(a:jX b w w')(d:iA w b=some t):KeepsOthers w w':=
 ⟨a.size,λk o c ho=>(a.block k (rN.1 c).1 (λe=>by grind[Hi])).trans c⟩
theorem Ms(f:Fr d l w w'):KeepsOthers w w':=
 ⟨f.size,λk o a ho=>(f.block k (rN.1 a).1 (λ⟨t,h,_⟩=>by grind[Hi])).trans a⟩
def Hk(a:dR w w'):Below 0 w w':=a.mono (gw _)
def XQ{b:Nat}(a:jX b w w'):Below 0 w w':=⟨a.os,a.tape,a.output,a.size,λk c=>absurd c (wQ _)⟩
def abk(f:Fr d l w w'):Below 0 w w':=⟨f.os,f.tape,f.output,f.size,λk a=>absurd a (wQ _)⟩
def Gu(h:np bs W w)(a:Below 0 w w')(b:∀k∈bs,w'.h[k]?=w.h[k]?):np bs W w':=h.trans ⟨a,b⟩
theorem lO.fI(bs:cV)(W:cS)(h:lO d X):lO d (λB w=>X B w/\LU bs W B w):=
 ⟨fun {B w w'} a c=>⟨h.cP a.1 c,(kG bs).cP a.2.1 c,a.2.2.1.trans (Hj c),Gu a.2.2.2 (Hk c) λk f=>c.block k (let⟨_,h1,_⟩:=(a.2.1 k f).2;iy h1)⟩,
  λa c=>⟨h.add a.1 c,(kG bs).add a.2.1 c,a.2.2⟩,
  λa g=>⟨h.mono a.1 g,(kG bs).mono a.2.1 g,a.2.2⟩,
  fun {B w w' b t} a hB c ht h1 h2=>⟨h.but a.1 hB c ht h1 h2,(kG bs).but a.2.1 hB c,a.2.2.1.trans (KR c ht),Gu a.2.2.2 (XQ c) λk f=>c.block k (let⟨_,h1,_⟩:=(a.2.1 k f).2;iy h1) (λe=>(a.2.1 k f).1 (e▸hB))⟩,
  λa e=>h.dev a.1 e⟩
def Hl(h:LU bs W B w)(f:Fr d l w w'):LU bs W B w':=
 ⟨(kG bs).fr h.1 f,h.2.1.trans (Ms f),Gu h.2.2 (abk f) λk a=>let⟨_,h1,h2,h3⟩:=(h.1 k a).2;Zp f h1 h2 h3⟩
theorem St.fI(S:St w0 d l L O (λB w=>X B w/\Tg bs B w) w):St w0 d l L O (λB W=>(X B W/\Tg bs B W)/\LU bs w B W) w:=
 ⟨S.fr,S.row,S.own,S.lo,S.nd,⟨S.x,S.x.2,KeepsOthers.refl _,np.refl _ _⟩,lO.fI bs w S.mh⟩
def St.kept(S:St w0 d l L O (λB w=>X B w/\LU bs W B w) w)(a:lO d X):KeepsOthers W w/\np bs W w/\St w0 d l L O X w:=
 ⟨S.x.2.2.1,S.x.2.2.2,S.fr,S.row,S.own,S.lo,S.nd,S.x.1,a⟩
def St.UE(S:St w0 d l L O X w)(e:dR w w')(h:∀k∈bs,(w.h.s<=k∨k<w0.h.s)/\∃t,iA w' k=cu t/\lS t=cy/\gV t=cy):St w0 d l L O (λB w=>X B w/\Tg bs B w) w':=by have a:=S.cP e;refine⟨a.fr,a.row,a.own,a.lo,a.nd,⟨a.x,λk b=>⟨λc=>?_,(h k b).2⟩⟩,a.mh.still (kG bs)⟩;rcases(h k b).1 with h1|h1;have:=S.lt k c;omega;have:=S.lo k c;omega
def dG(s:dw):Nat×fF:=if s.dz=cx then(s.cY,s.name) else(0,s.name)
def sR(c:Nat×fF):Nat->c7:=λi=>if i=0 then bU ct c.1 else bY c.2
def Qe(c:Nat×fF):∀i,(sR c i).oneCell'=cx:=by intro i;unfold sR;split<;>rfl
instance ina6fa9(x:Nat×fF):OF (sR x):=⟨Qe x⟩
theorem DM(c:Nat×fF):cL 2 (sR c)=#[bU ct c.1,bY c.2]:=rfl
def agH:(#[bU ct 0,bY ⟨#[]⟩]:gE)=cL 2 (sR (0,sG)):=rfl
instance in3a7d0 :ZR 258 2 (sR (0,sG)):=⟨_,zeroValue258,agH⟩
def ahM:kg prog 258 2:=⟨⟨_,underlying258,ae⟩,dC⟩
instance ina5a31 :sE 258 2:=⟨ahM⟩
theorem ais(c d:Nat×fF)(r:Bool)(h:decide (c=d)=r)(w:cS):(binOp .eql 258 (.agg #[.int .u64 c.1,.string c.2]) (.agg #[.int .u64 d.1,.string d.2])).run prog w=.ok (.bool r) w:=by
 have k:(Op.equal 258 (.agg #[.int .u64 c.1,.string c.2]) (.agg #[.int .u64 d.1,.string d.2])).run prog w=.ok r w:=by
  unfold Op.equal Op.maxDepth;rw[run_equalIn_struct (P:=prog) w 9999 258 _ _ dC dC];obtain⟨l,f⟩:∃p,(prog.fieldsOf 258).toList=[⟨ "owner",82,0,false, "",p,0⟩,⟨ "name",9,1,false, "",p,8⟩]:=⟨(prog.fieldsOf 258)[0]!.pkgPath,dC⟩;rw[f];simp[Op.eqFields,part,isAgg82,isAgg9,Result.andThen,I7 w 9998 82 .u64 .u64 _ _ underlying82,run_equalIn_string w 9998 9 _ _ za];rw[<-h];have⟨a,s⟩:=c;have⟨b,t⟩:=d;simp only;have g:s.toList=t.toList↔s=t:=by rw[DL,DL];exact⟨λe=>by have⟨⟨x⟩⟩:=s;simp_all,λe=>by rw[e]⟩
  by_cases i:a=b;by_cases j:s=t<;>simp_all;have:¬((a:Int)=(b:Int)):=cN;simp_all
 simp_all[binOp]
def Mt(b o:Nat)(x:dL)(w:cS)(h:nE w b o x):tf 199 #[bW (cu ⟨b,o,cw⟩)] w (bV (cL 2 (sR (dG x.todw)))):=by
 have R:=cz h;clear h;have S:=qR w;cases a:x.dz with
 |true=>
  have hc:dG x.todw=(x.cY,x.name):=by unfold dG;rw[df a]
  rw[hc];have c:Value.bool x.dz=bZ cx:=by rw[a]
  have d:=cz c;have⟨A,HA⟩:=yB (cL 2 (sR (x.cY,x.name)));clear a hc c;go_enter func199,ntmps199;go_upto_region 2 with(first|(refine jF (R.o.cP S.b).c2 ae tT ?_;rw[d.o])|refine fg λW S=>?_);refine Ce S dC λW S=>?_;refine dh 0 _ ?_;refine dh 1 (dE b o) ?_;refine dh 2 (dE b (o+3)) ?_;refine gZ 3 (bU ct x.cY) ae (gO (λw h=>by obtain⟨_,_,_,S⟩:=h;exact(R.o.cP S.b).c3) ae fZ) ?_;refine dh 4 _ ?_;refine dh 5 (dE b o) ?_;refine dh 6 (dE b (o+1)) ?_;refine gZ 7 (bY x.name) ae (gO (λw h=>by obtain⟨_,_,_,S⟩:=h;exact(R.o.cP S.b).c1) ae Gt) ?_;refine gZ 8 (bV A) ae (y8 ae amU) ?_;refine kI 9 λK e=>?_;refine kq S 0 ae ae ae HA.o ahM (Qe _) λW S=>?_;refine gq e ?_;refine qx ?_;go_wp2_with (refine mA ?_;exact az)
 |false=>
  have hc:dG x.todw=(0,x.name):=by unfold dG;rw[cZ (by rw[a];simp)]
  rw[hc];have c:Value.bool x.dz=bZ cy:=by rw[a]
  have d:=cz c;have⟨A,HA⟩:=yB (cL 2 (sR (0,x.name)));clear a hc c;go_enter func199,ntmps199;go_wp2_with first|refine jo 19 9 18 (R.o.cP S.b).c1 ?_|(refine jF (R.o.cP S.b).c2 ae tT ?_;rw[d.o])|refine lE (cells:=A) ae amU ?_|(refine mA ?_;exact az)|refine fg λW S=>?_
def r5(l:List dw)(c:Nat×fF):Option Nat:=l.findIdx? λx=>decide (dG x=c)
def Kb(l:List dL)(v:c7)(c:Nat×fF)(A:gE)(u:A=cL 2 (sR c))(L:l.n<=1000000)(w:cS)(R:gu w v l):tf 164 #[v,bV A] w (bU cq (lF (r5 (eM l) c))):=by
 obtain⟨ao,cap,rfl,z,e⟩:=dP R.1;have C:=cz u;clear u;have S:=qR w;go_enter func164,ntmps164;go_upto_region 2 with(refine fg λW S=>?_);have S:=cz S;go_loopw [8] (λi wr=>∃k:Nat,k<=l.n/\i=bU cq k/\Hid ((∀(j:Nat)y,(eM l)[j]?=cu y->j<k->decide (dG y=c)=cy)/\St w cw [] [⟨w.h.s,258,2,sR c⟩] [] (λ_ _=>True) wr)) (λi _=>l.n-(intOf i).m);exact amm;clear S;obtain⟨k,J,rfl,hS⟩:=hrel;by_cases g:k<l.n
 . obtain⟨b,o,rfl⟩:=e cN;obtain⟨x,n⟩:∃x,l[k]?=cu x:=⟨_,jE g⟩;have⟨hold,S⟩:=hS.o;clear hS;have d:=cz λW(G:dR w W)=>Mt b (o+k*11) x W ((R.cP G).at n);have t:=cz n;have⟨D,HD⟩:=sO (dG x.todw);rw[HD.o] at d;have⟨r,hr⟩:=dI (decide (D=c));have a:=ais D c r hr;rw[<-DM,<-DM] at a;have⟨B,hB⟩:=fP (cL 2 (sR D));rw[<-hB] at a d;rw[<-C.o] at a;have E:=cz a;have q:=cz hold;have s:=cz hr;clear n a hold hr hB;go_wp2;refine eu S dC λW S=>?_;refine dh 0 _ ?_;refine dh 1 _ ?_;refine dh 2 (dE b (o+k*11)) ?_;refine dh 4 (bV A) ?_;refine kI 3 λK F=>?_;go_wp2_with fail;refine je S (d.o _ S.b) λW S=>?_;refine gq F ?_;refine gZ 5 (bZ r) ae (Or.inl ⟨dC,λw M=>by have H:=E.o;go_simp⟩) ?_;refine qx ?_;cases r with|true=>go_wp2;go_ret;have m:r5 (eM l) c=cu k:=Ck (by rw[mZ,t.o];rfl) (by rw[HD.o];exact s.o) q.o;exact⟨by rw[m];rfl,S.b⟩|false=>go_wp2;go_roundw;refine⟨k+1,cN,by go_num,cz ⟨λj y p I=>?_,S⟩⟩;by_cases f:j=k;subst f;rw[mZ,t.o] at p;cases p;rw[HD.o];exact s.o;exact q.o j y p cN;exact pR
 . obtain rfl:k=l.n:=cN;go_wp2;go_ret;have m:r5 (eM l) c=cw:=Cl (by rw[iu];exact hS.o.1);exact⟨by rw[m];rfl,hS.o.2.fr.cP⟩
def adY:prog.built 109 []=cu #[bU ct 0,bY ⟨#[]⟩,bZ cy,bU ct 0,bU ct 0,bU ct 0,bU cq 0,bU cq 0,bU ct 0,bU .u32 0,bX cw 0 0]:=dC
def oH:dw:=nj.todw
def dH(l:List dw)(k:Nat):dw:=l.getD k oH
def Mu(l:List dw):Option Nat->dw
 |none=>oH
 |some k=>dH l k
theorem lG{l:List dL}{k:Nat}{x:dL}(a:l[k]?=cu x):dH (eM l) k=x.todw:=by grind[dH,mZ]
theorem kL{l:List dL}{id k:Nat}(h:fj (eM l) id=cu k):k<l.n/\∃x,l[k]?=cu x/\x.id=id:=by have⟨x,hx,hp⟩:=Ka h;rw[mZ] at hx;grind
theorem Mv{l:List dL}{c:Nat×fF}(h:r5 (eM l) c=cu k):k<l.n/\∃x,l[k]?=cu x/\dG x.todw=c:=by have⟨x,hx,hp⟩:=Ka h;rw[mZ] at hx;grind
def zm(w':cS)(base:Nat)(B:gE)(t:dw):Prop:=∃y:dL,B=cL 11 (iw y)/\y.todw=t/\il w' base y.dv y.di
def sI(w:cS)(base:Nat):zm w base (cL 11 (iw nj)) oH:=⟨nj,ae,ae,il.nil _ _⟩
def qy(x:dL)(A:gE)(a:A=cL 11 (iw x))(b:x.di.n<=1000000)(w:cS)(R:zj w x):
 CP_ 115 #[bV A] w λe w'=>∃(B:gE)(y:dL),e=cj (bV B)/\B=cL 11 (iw y)/\(y.todw=x.todw/\il w' w.h.s y.dv y.di)/\dR w w':=
 (UC x A a b w R).mono λe w' h=>by
  have⟨B,ao,c,h1,h2,h3,h4⟩:=h;exact⟨B,x.UB ao c,h1,h2,⟨ae,h3⟩,h4⟩
def ajS(s:List dw):Prop:=∀t∈s,t.di.n<=1000000/\t.name.s<=1000
def rG(l:List dL):Prop:=ajS (eM l)
theorem rG.at{l:List dL}(h:rG l){x:dL}(a:x∈l):x.di.n<=1000000/\x.name.s<=1000:=h x.todw (gI.2 ⟨x,a,ae⟩)
def Kc(l:List dL)(v:c7)(id:Nat)(u:l.n<=1000000)(t:rG l)(w:cS)(R:gu w v l):CP_ 160 #[v,bU ct id] w λe w'=>∃B,e=cj (cg #[bV B,bZ (fj (eM l) id).isSome])/\zm w' w.h.s B (Mu (eM l) (fj (eM l) id))/\dR w w':=by
 obtain⟨ao,cap,rfl,n,h⟩:=dP R.1;have R:=cz R;have c:=cz λW(a:dR w W)=>uk l _ id u W (R.o.cP a);have S:=qR w;rcases hp:fj (eM l) id with _|k;rw[hp] at c;simp only[lF] at c;clear hp;rotate_left;rw[hp] at c;simp only[lF] at c;obtain⟨C,x,g,-⟩:=kL hp;clear hp;obtain⟨b,o,rfl⟩:=h cN;have⟨hi,hxx⟩:=nB.1 g;have⟨A,hA⟩:=fP (cL 11 (iw x));have f:=cz (nD l hi (A:=A) am3);have j:=cz hA;have i:=kA g;have p:=cz λW(a:dR w W)=>qy x A j.o (t.at i).1 W ((R.o.cP a).2 x i);have q:=cz (lG g);clear hA hxx i g
 all_goals
  go_enter func160,ntmps160
  go_wp2_with first|refine je S (c.o _ S.b) λW S=>?_|(refine(p.o _ S.b).mono ?_;rintro e W ⟨B,y,rfl,m,d,a⟩;have z:=cz m;replace d:=d;have s:=S;replace S:=S.iv a d.2 ae ae;have r:=cz d.1;clear a m d s)|refine AD (R.o.cP S.b).1 hi (vu j) f.o ?_|refine fL ?_|refine fg λW S=>?_|(refine mA ?_;exact⟨_,ae,sI _ _,S.b⟩)|(refine mA ?_;exact⟨_,ae,⟨y,ae,r.o.trans q.o.symm,S.o0⟩,S.b⟩)
def nJ(l:List dw)(cT:fF):Option Nat×Int:=
 match eO cT with
 |none=>(cw,141)
 |some (ir,dz)=>match r5 l (0,ir) with
  |none=>(cw,161)
  |some i=>if dz=sG then(cu i,0) else match r5 l ((dH l i).id,dz) with
   |none=>(cw,161)
   |some j=>(cu j,0)
def Hm(l:List dL)(v:c7)(cT:fF)(N:cT.size<=140737488355328)(L:l.length<=1000000)(K:rG l)(w:cS)(R:gu w v l):CP_ 107 #[v,.string cT] w λe w'=>∃B,e=.returned (.tuple #[.agg B,.int .i64 (nJ (eM l) cT).2])/\zm w' w.heap.size B (Mu (eM l) (nJ (eM l) cT).1)/\dR w w':=by
 obtain⟨ao,cap,rfl,J,E⟩:=dP R.1;have R:=cz R;have m:=cz (tC cT N);have S:=qR w;rcases hn:eO cT with _|p;have h:Hid (nJ (eM l) cT=(none,141)):=cz (by unfold nJ;rw[hn]);rw[hn] at m;clear hn;rotate_left;have⟨ir,dz⟩:=p;rw[hn] at m;have⟨A1,hA1⟩:=fP (cL 2 (sR (0,ir)));have f:=cz λW(a:dR w W)=>Kb l _ (0,ir) A1 hA1 L W (R.o.cP a);have t:=cz hA1;clear hA1;rcases h1:r5 (eM l) (0,ir) with _|i;have h:Hid (nJ (eM l) cT=(none,161)):=cz (by unfold nJ;rw[hn];simp only[h1]);rw[h1] at f;simp only[lF] at f;clear hn h1;rotate_left;rw[h1] at f;simp only[lF] at f;obtain⟨hi,x,s,-⟩:=Mv h1;have q:=lG s;have O:(0:Int)<=(i:Int):=Int.natCast_nonneg i;have Q:¬((i:Int)<0):=cN;obtain⟨b,o,rfl⟩:=E cN;have z:=cz s;by_cases r:dz=sG;have h:Hid (nJ (eM l) cT=(some i,0)):=cz am5;have⟨hi9,hxx⟩:=nB.1 z.o;have⟨A,hA⟩:=fP (cL 11 (iw x));have c:=cz (nD l hi9 (A:=A) am3);have n:=cz hA;have d:=kA z.o;have F:=cz λW(a:dR w W)=>qy x A n.o (K.at d).1 W ((R.o.cP a).2 x d);have G:=cz q;clear hA q hxx d;subst r;unfold sG at m;clear hn h1;rotate_left;have X:=Ba r;have⟨A2,hA2⟩:=fP (cL 2 (sR (x.id,dz)));have g:=cz λW(a:dR w W)=>Kb l _ (x.id,dz) A2 hA2 L W (R.o.cP a);have u:=cz hA2;clear hA2;rcases h2:r5 (eM l) (x.id,dz) with _|j;have h:Hid (nJ (eM l) cT=(none,161)):=cz am5;rw[h2] at g;simp only[lF] at g;clear hn h1 h2 r q s;rotate_left;have h:Hid (nJ (eM l) cT=(some j,0)):=cz am5;rw[h2] at g;simp only[lF] at g;obtain⟨Y,y,M,-⟩:=Mv h2;have k:=lG M;have T:¬((j:Int)<0):=cN;have H:=cz M;clear s;have⟨hi9,hxx⟩:=nB.1 H.o;have⟨A,hA⟩:=fP (cL 11 (iw y));have c:=cz (nD l hi9 (A:=A) am3);have n:=cz hA;have d:=kA H.o;have F:=cz λW(a:dR w W)=>qy y A n.o (K.at d).1 W ((R.o.cP a).2 y d);have G:=cz k;clear hA k hxx d;clear hn h1 h2 r q
 all_goals
  rw[h.o];go_enter func107,ntmps107
  go_wp2_with first|(go_at_call_has 164 A1;refine je S (f.o _ S.b) λW S=>?_)|(go_at_call_has 164 A2;refine je S (g.o _ S.b) λW S=>?_)|refine je S (m.o _) λW S=>?_|((with_reducible refine zZ 22 258 ?_);refine lE (cells:=A1) ae (by rw[t.o];kernel_rfl) ?_)|refine je S (f.o _ S.b) λW S=>?_|(refine(F.o _ S.b).mono ?_;rintro e W ⟨B,U,rfl,I,D,a⟩;have V:=cz I;replace S:=S.iv a D.2 ae ae;have C:=cz D.1;clear a I D)|refine jo 35 82 34 ((R.o.cP S.b).at z.o).c0 ?_|((with_reducible refine zZ 37 258 ?_);refine lE (cells:=A2) ae (by rw[u.o];kernel_rfl) ?_)|refine AD (R.o.cP S.b).1 hi9 (vu n) c.o ?_|refine fL ?_|refine fg λW S=>?_|(refine mA ?_;exact⟨_,ae,sI _ _,S.b⟩)|(refine mA ?_;exact⟨_,ae,⟨U,ae,C.o.trans G.o.symm,S.o0⟩,S.b⟩)
def gj(l:List dw)(id:Nat):Nat:=
 match fj l id with
 |none=>0
 |some i=>if(dH l i).dB=0 then 0 else match fj l (dH l i).dB with
  |none=>0
  |some j=>(dH l j).cR
def EJ(l:List dL)(v:c7)(id:Nat)(B:l.n<=1000000)(w:cS)(R:gu w v l):tf 114 #[v,bU ct id] w (bU ct (gj (eM l) id:Nat)):=by
 obtain⟨ao,cap,rfl,s,n⟩:=dP R.1;have R:=cz R;have a:=cz λ(id:Nat)W(u:dR w W)=>uk l _ id B W (R.o.cP u);have S:=qR w;cases c:fj (eM l) id with
 |none=>have f:Hid (gj (eM l) id=0):=cz (by unfold gj;rw[c]);have a:=cz (a.o id);rw[c] at a;simp only[lF] at a;clear c;go_enter func114,ntmps114;go_wp2_with (refine je S (a.o _ S.b) λW S=>?_);go_ret;exact bR
 |some i=>
  obtain⟨hi,x,k,-⟩:=kL c;have h:=lG k;obtain⟨b,o,rfl⟩:=n cN;have z:¬((i:Int)<0):=cN;have m:=cz (a.o id);rw[c] at m;simp only[lF] at m;have r:=cz k;have⟨pv,hpv⟩:=dI x.dB;have q:Hid (Value.int ct x.dB=bU ct pv):=cz (by rw[hpv]);by_cases g:pv=0;have f:Hid (gj (eM l) id=0):=cz (by unfold gj;rw[c];simp only[h];rw[df (hpv.trans g)]);subst g;clear c k h hpv a;rotate_left;have C:((pv:Int)==0)=cy:=by rw[lR];omega
  have e:=cz (a.o pv);have d:gj (eM l) id=match fj (eM l) pv with|none=>0|some j=>(dH (eM l) j).cR:=by unfold gj;rw[c];simp only[h];rw[cZ (by rw[hpv];exact g),hpv]
  rcases hp2:fj (eM l) pv with _|j;rw[hp2] at d e;simp only[lF] at e;have f:Hid (gj (eM l) id=0):=cz d;clear c k h hpv a d hp2 g;rotate_left;rw[hp2] at d e;simp only[lF] at e;obtain⟨D,y,p,-⟩:=kL hp2;have A:¬((j:Int)<0):=cN;simp only[lG p] at d;have f:Hid (gj (eM l) id=y.cR):=cz d;have t:=cz p;clear c k h hpv a d hp2 g p
  all_goals
   go_enter func114,ntmps114
   go_wp2_with first|(go_at_call_has 103 (Value.int ct id);refine je S (m.o _ S.b) λW S=>?_)|(go_at_call_has 103 (Value.int ct pv);refine je S (e.o _ S.b) λW S=>?_)|refine je S (m.o _ S.b) λW S=>?_|(refine mi dC<|jF ((R.o.cP S.b).at r.o).c4 ae fZ ?_;rw[q.o])|(refine jF ((R.o.cP S.b).at r.o).c4 ae fZ ?_;rw[q.o])|refine jo 32 82 31 ((R.o.cP S.b).at t.o).c5 ?_
   go_ret;exact bR
def l7(l:List dw)(id:Nat):fF:=
 match fj l id with
 |none=>sG
 |some i=>if(dH l i).dz=cy then kX (dH l i).name sG else match fj l (dH l i).cY with
  |none=>sG
  |some j=>kX (dH l j).name (dH l i).name
def aec(l:List dL)(v:c7)(id:Nat)(F:l.n<=1000000)(C:rG l)(w:cS)(R:gu w v l):tf 44 #[v,bU ct id] w (bY (l7 (eM l) id)):=by
 obtain⟨ao,cap,rfl,t,q⟩:=dP R.1;have R:=cz R;have a:=cz λ(id:Nat)W(B:dR w W)=>uk l _ id F W (R.o.cP B);have S:=qR w;cases c:fj (eM l) id with
 |none=>have f:Hid (l7 (eM l) id=sG):=cz (by unfold l7;rw[c]);have a:=cz (a.o id);rw[c] at a;simp only[lF] at a;clear c;go_enter func44,ntmps44;go_wp2_with (refine je S (a.o _ S.b) λW S=>?_);go_ret;exact bR
 |some i=>
  obtain⟨hi,x,k,-⟩:=kL c;have n:=lG k;obtain⟨b,o,rfl⟩:=q cN;have D:¬((i:Int)<0):=cN;have m:=cz (a.o id);rw[c] at m;simp only[lF] at m;have g:=cz k;rcases hs:x.dz with _|_;have p:Hid (Value.bool x.dz=bZ cy):=cz (by rw[hs]);have f:Hid (l7 (eM l) id=kX x.name sG):=cz (by unfold l7;rw[c];simp only[n];rw[df hs]);have d:=cz (Hh x.name sG kB);unfold sG at d;clear c k n a hs;rotate_left;have p:Hid (Value.bool x.dz=bZ cx):=cz (by rw[hs]);have⟨ow,how⟩:=dI x.cY;have s:Hid (Value.int ct x.cY=bU ct ow):=cz (by rw[how]);have d:=cz (a.o ow);have e:l7 (eM l) id=match fj (eM l) ow with|none=>sG|some j=>kX (dH (eM l) j).name x.name:=by unfold l7;rw[c];simp only[n];rw[cZ (by rw[hs];simp),how]
  rcases hp2:fj (eM l) ow with _|j;rw[hp2] at e d;simp only[lF] at d;have f:Hid (l7 (eM l) id=sG):=cz e;clear c k n a hs e hp2 how;rotate_left
  . rw[hp2] at e d;simp only[lF] at d;obtain⟨G,y,r,-⟩:=kL hp2;have E:¬((j:Int)<0):=cN;simp only[lG r] at e;have u:=cz (Hh y.name x.name (C.at (kA k)).2);have f:Hid (l7 (eM l) id=kX y.name x.name):=cz e;have z:=cz r;clear c k n a hs e hp2 how r;go_enter func44,ntmps44;go_upto_region 9 with(first|(go_at_call_has 103 (Value.int ct id);refine je S (m.o _ S.b) λW S=>?_)|(refine jF ((R.o.cP S.b).at g.o).c2 ae tT ?_;rw[p.o])|(refine jF ((R.o.cP S.b).at g.o).c3 ae fZ ?_;rw[s.o])|(go_at_call_has 103 (Value.int ct ow);refine je S (d.o _ S.b) λW S=>?_));refine eu S dC λW S=>?_;refine dh 0 _ ?_;refine dh 1 _ ?_;refine dh 2 (dE b (o+j*11)) ?_;refine dh 3 (dE b (o+j*11+1)) ?_;refine gZ 4 (bY y.name) ae (gO (λw h=>by obtain⟨_,S⟩:=h;exact((R.o.cP S.b).at z.o).c1) ae Gt) ?_;refine dh 5 _ ?_;refine dh 6 _ ?_;refine dh 7 (dE b (o+i*11)) ?_;refine dh 8 (dE b (o+i*11+1)) ?_;refine gZ 9 (bY x.name) ae (gO (λw h=>by obtain⟨_,S⟩:=h;exact((R.o.cP S.b).at g.o).c1) ae Gt) ?_;refine kI 10 λK A=>?_;go_wp2_with fail;refine je S (u.o _) λW S=>?_;refine gq A ?_;refine dh 11 _ ?_;refine qx ?_;go_wp2;go_ret;exact bR
  all_goals
   go_enter func44,ntmps44
   go_wp2_with first|(go_at_call_has 103 (Value.int ct id);refine je S (m.o _ S.b) λW S=>?_)|(go_at_call_has 103 (Value.int ct ow);refine je S (d.o _ S.b) λW S=>?_)|refine jo 22 9 21 ((R.o.cP S.b).at g.o).c1 ?_|refine je S (m.o _ S.b) λW S=>?_|(refine jF ((R.o.cP S.b).at g.o).c2 ae tT ?_;rw[p.o])|refine je S (d.o _) λW S=>?_|(refine jF ((R.o.cP S.b).at g.o).c3 ae fZ ?_;rw[s.o])
   go_ret;exact bR
def z6(l:List dw)(id:Nat):Nat->cV->Nat->cV×Nat
 |0,chain,dB=>(chain,dB)
 |f+1,chain,dB=>if dB=0 then(chain,dB) else match fj l dB with
  |none=>(chain,dB)
  |some i=>if(dH l i).cY=id then z6 l id f (chain++[dB]) (dH l i).dB else(chain,dB)
def uX(l:List dw)(id:Nat):cV×Nat:=
 match fj l id with
 |none=>([],0)
 |some i=>if(dH l i).dz=cx then([],0) else z6 l id 32 [] (dH l i).dB
theorem XR(l:List dw)(id f:Nat)(a:cV):z6 l id f a 0=(a,0):=by cases f<;>simp[z6]
def KS(l:cV):List c7:=l.map λ(n:Nat)=>Value.int ct (n:Int)
def aed:xi prog 78 82 1 8:=⟨vS,_,Ap,ae,cN⟩
def Hn(k:IntKind)(l:List Int):∀i,(Mk k l i).oneCell'=cx:=λ_=>ae
def Zq(l:List dL)(v:c7)(id:Nat)(T:l.n<=1000000)(w:cS)(R:gu w v l):CP_ 105 #[v,bU ct id] w λe w'=>∃r,e=cj (cg #[r,bU ct ((uX (eM l) id).2:Nat)])/\KM w' w.h.s r (uX (eM l) id).1/\dR w w':=by
 obtain⟨ao,cap,rfl,J,F⟩:=dP R.1;have R:=cz R;have k:=cz λ(id:Nat)W(N:dR w W)=>uk l _ id T W (R.o.cP N);have S:=qR w;cases h:fj (eM l) id with
 |none=>have m:Hid (uX (eM l) id=([],0)):=cz (by unfold uX;rw[h]);have k:=cz (k.o id);rw[h] at k;simp only[lF] at k;clear h;rw[m.o];go_enter func105,ntmps105;go_wp2_with (refine je S (k.o _ S.b) λW S=>?_);go_ret2;exact aJ
 |some i=>
  obtain⟨hi,x,A,-⟩:=kL h;have z:=lG A;obtain⟨b,o,rfl⟩:=F cN;have O:¬((i:Int)<0):=cN;have u:=cz (k.o id);rw[h] at u;simp only[lF] at u;have D:=cz A;cases t:x.dz with
  |true=>have B:Hid (Value.bool x.dz=bZ cx):=cz (by rw[t]);have m:Hid (uX (eM l) id=([],0)):=cz (by unfold uX;rw[h];simp only[z];rw[df t]);clear h A z k t;rw[m.o];go_enter func105,ntmps105;go_wp2_with (first|refine je S (u.o _ S.b) λW S=>?_|(refine mi dC<|jF ((R.o.cP S.b).at D.o).c2 ae tT ?_;rw[B.o]));go_ret2;exact aJ
  |false=>
   have B:Hid (Value.bool x.dz=bZ cy):=cz (by rw[t]);have m:Hid (z6 (eM l) id 32 [] x.dB=uX (eM l) id):=cz (by unfold uX;rw[h];simp only[z];rw[cZ (by rw[t];simp)]);have⟨WW,hWW⟩:=dI (uX (eM l) id);rw[hWW] at m|-;clear h A z t hWW;go_enter func105,ntmps105;go_upto_region 6 with(first|refine jo 25 82 24 ((R.o.cP S.b).at D.o).c4 ?_|refine je S (u.o _ S.b) λW S=>?_|(refine mi dC<|jF ((R.o.cP S.b).at D.o).c2 ae tT ?_;rw[B.o]));have S:=cz (S.Jl 82 1 ae ae);go_loopw [7,8] (λc p wr=>∃(d:cV)(dB f:Nat)(a:Option Addr)(q:Nat),d.n+f=32/\c=bX a d.n q/\p=bU ct dB/\Hid (z6 (eM l) id f d dB=WW/\St w cw [] [] [⟨82,1,bX a d.n q,d.n,KS d⟩] (λ_ _=>True) wr)) (λc _ _=>match c with|bX _ n _=>32-n|_=>0);exact⟨[],x.dB,32,cw,0,ae,ae,ae,cz ⟨m.o,S.o⟩⟩;clear S m u;obtain⟨d,dB,f,a,q,V,rfl,rfl,hS⟩:=hrel;have⟨hgo,S⟩:=hS.o;clear hS;rcases BG (dB=0) with rfl|h0
   . rw[XR] at hgo;subst hgo;go_wp2;go_ret2;exact bu
   . (have U:((dB:Int) !=0)=cx:=by rw[fJ];omega);rcases vK f with rfl|hf0
     . subst hgo;have hc:¬((d.n:Int)<32):=cN;go_wp2;go_ret2;exact bu
     . obtain⟨f,rfl⟩:∃g,f=g+1:=⟨f-1,cN⟩;have hc:((d.n:Int)<32):=cN;have s:=cz (k.o dB);unfold z6 at hgo;rw[cZ h0] at hgo;rcases hp2:fj (eM l) dB with _|j;rw[hp2] at hgo s;simp only[lF] at s;subst hgo;clear hp2;rotate_left;obtain⟨X,y,G,-⟩:=kL hp2;have Q:¬((j:Int)<0):=cN;rw[hp2] at hgo s;simp only[lF] at s;simp only[lG G] at hgo;have E:=cz G;have⟨H,how⟩:=dI y.cY;have I:Hid (Value.int ct y.cY=bU ct H):=cz (by rw[how]);rw[how] at hgo;clear G hp2 how;rcases BG (H=id) with rfl|hoi
       . rw[df ae] at hgo;have C:=cz hgo;clear hgo;go_wp2_with (first|refine jo 55 82 54 ((R.o.cP S.b).at E.o).c4 ?_|refine je S (s.o _ S.b) λW S=>?_|(refine mi dC<|jF ((R.o.cP S.b).at E.o).c3 ae fZ ?_;rw[I.o])|refine mH S ct [(dB:Int)] vS Ap cN cN rfl rfl rfl λW S=>?_|refine tA S 0 rfl 0 rfl rfl rfl rfl aed (Hn _ _) CK xZ λM L W S=>?_);go_roundw;exact⟨d++[dB],y.dB,f,s_ M 0,L,by simp;omega,by simp,ae,cz ⟨C.o,by have S:=S.pop;unfold KS;rw[nL,ji];exact S⟩⟩;simp;omega
       (have K:((H:Int)!=(id:Int))=cx:=by rw[fJ];omega);rw[cZ hoi] at hgo;subst hgo
       all_goals
        go_wp2_with first|refine je S (s.o _ S.b) λW S=>?_|(refine mi dC<|jF ((R.o.cP S.b).at E.o).c3 ae fZ ?_;rw[I.o])
        go_ret2;exact bu
def Qf(l:List dL)(v:c7)(id:Nat)(c:l.n<=1000000)(w:cS)(R:gu w v l):CP_ 128 #[v,bU ct id] w λe w'=>∃r,e=cj r/\KM w' w.h.s r (uX (eM l) id).1/\dR w w':=by have a:=cz (Zq l v id c w R);clear R;go_enter func128,ntmps128;go_wp2_with (refine a.o.mono ?_;rintro e W ⟨r,rfl,ho,b⟩);go_ret;exact⟨_,ae,ho,b⟩
def Mw(l:List dL)(v:c7)(id:Nat)(c:l.n<=1000000)(w:cS)(R:gu w v l):tf 45 #[v,bU ct id] w (bU ct ((uX (eM l) id).2:Nat)):=by have a:=cz (Zq l v id c w R);clear R;go_enter func45,ntmps45;go_wp2_with (refine a.o.mono ?_;rintro e W ⟨r,rfl,ho,b⟩);go_ret;exact⟨ae,b⟩
end
section
variable {f:α->List β}
theorem Mx(c:∀x,(f x).n=z)(l:List α)(o:k<l.n)(y:α){m:List β}(p:m.n=l.n*z)(n:∀j,j<z->m[k*z+j]?=(f y)[j]?)(d:∀i j,i≠k->j<z->m[i*z+j]?=(l.flatMap f)[i*z+j]?):m=(l.set k y).flatMap f:=by apply xK;intro t;by_cases h:t<l.n*z;rcases vK z with rfl|hz;omega;(have e:t=t/z*z+t%z:=by grind[div_add_mod]);(have a:t%z<z:=mod_lt _ hz;have g:t/z<l.n:=by rw[div_lt_iff_lt_mul hz];exact h);rw[e,flat_get c (l.set k y) jv a];by_cases b:t/z=k;grind;rw[d _ _ b a,flat_get c l g a,getElem_set_ne (pU b)];grind[xk,length_set]
end
section
variable {P:oN}
variable {x:Nat}
theorem Bc{g:Nat}(h:w.ownsRow base e z (bX (cu ⟨g,0,cw⟩) n c) n xs):∃(m:Nat)(f:Nat->c7),cM w g e m f/\n*z<=m:=by rcases h.2 with⟨a,_⟩|⟨d,cap,cur,a,j,b,k,l,h6,o⟩;cases a;simp only[ly,yz,Addr.mk.injEq] at a;obtain⟨⟨rfl,-,-⟩,-,rfl⟩:=a;refine⟨cur.s,λi=>cur.getD i undef,?_,by simp_all[IW]⟩;unfold cM;rw[b];simp[cL]
theorem uY{w w':cS}{b:Nat}(h:jX b w w'):w.grownBy w' (some b):=⟨h.os,h.tape,h.output,h.size,λk a c=>h.block k a (λe=>c (by rw[e]))⟩
theorem aee(S:St w0 d l L O X w)(j:Nat){o:O4}(s:O[j]?=cu o){g:Nat}(e:o.v=bX (cu ⟨g,0,cw⟩) o.n c)(i:Nat)(hi:i<o.n*o.z)(u:a.eval (.tmp x)=bW (cu ⟨g,i,cw⟩))(y:a.eval q=v)(k:v.oneCell'=cx)(t:lD P ty)(h:∀W,St w0 d l L (O.set j ⟨o.e,o.z,o.v,o.n,o.xs.set i v⟩) X W->wpList P ops Q rest (a.put cw undef) W):wpList P ops Q (⟨cw,.store ty (.tmp x) q,t2,p,af,cw⟩::rest) a w:=by
 have b:=S.uS s;rw[e] at b;have⟨m,f,hr,hm⟩:=Bc b;refine Cc (nS hr (n:=1) cN) u y k t (h _ ?_);have r:o.v.ownBlock=cu g:=by rw[e];rfl
 exact S.grow s (by grind[uY,sy]) (by rw[e];exact(b.stored i v).1) r (.inl r)
theorem aef(S:St w0 d l L O X w)(j:Nat){o:O4}(k:O[j]?=cu o){g:Nat}(n:o.v=bX (cu ⟨g,0,cw⟩) o.n c)(i:Nat){A:gE}(hi:i*o.z+o.z<=o.n*o.z)(t:a.eval (.tmp x)=bW (cu ⟨g,i*o.z,cw⟩))(u:a.eval (.tmp y)=bV A)(r:A=cL o.z f)(s:kg P ty o.z)(q:∀i,(f i).oneCell'=cx)(h:∀W,St w0 d l L (O.set j ⟨o.e,o.z,o.v,o.n,Dw o.xs (i*o.z) (cL o.z f).t⟩) X W->wpList P ops Q rest (a.put cw undef) W):wpList P ops Q (⟨cw,.store ty (.tmp x) (.tmp y),t2,p,af,cw⟩::rest) a w:=by
 subst r;have b:=S.uS k;rw[n] at b;have⟨m,f',hr,hm⟩:=Bc b;refine wpList_store_mid (op:=⟨cw,.store ty (.tmp x) (.tmp y),t2,p,af,cw⟩) ae ty (.tmp x) (.tmp y) ae g (i*o.z) (cL o.z f) t u (by grind[cW,nS]) (by rw[cW];exact s.2) (oE f q) (h _ ?_);have e:o.v.ownBlock=cu g:=by rw[n];rfl
 exact S.grow k (by grind[uY,jX.setCells]) (by grind[tt]) e (.inl e)
theorem ahN(S:St w0 d l L O X w){r:Operand}(v:xi P ty e z by')(s:a.eval q=bU cq n)(t:a.eval r=bU cq n)(y:by'*n<=281474976710656)(o:n<=maxLen)(j:gV e=cy)(k:lS e=cy)(i:∀f c,P.info? e=cu f->f.zero=cu c->(madeCells c.cells (n*z)).t=xs)(h:∀g W,St w0 d l L (⟨e,z,bX (cu ⟨g,0,cw⟩) n n,n,xs⟩::O) X W->wpList P ops Q rest (a.put (cu dst) (bX (cu ⟨g,0,cw⟩) n n)) W):
 wpList P ops Q (⟨cu dst,.makeSlice ty q r,t2,p,af,cw⟩::rest) a w:=by
 have⟨hu,c,hi,hz,h0⟩:=v;have⟨f,hi1,hz0,hz1,hz2⟩:=oG hi;have b:=run_make w ty e f c hu hi1 hz0 cq cq (n:Nat) (n:Nat) cN cN jv bJ;simp only[tZ,hz1] at b;have x:=i f c hi1 hz0;refine mC ae λK m=>?_;unfold Oper.wp execOp;simp only[lh,s,t,b,nW];have u:(madeCells c.cells (n*z)).s=n*z:=by rw[size_madeCells]
 refine m _ _ (h _ _ (S.iv ((gJ _ _).alloc (eN _) _) ⟨by grind,.inr ⟨w.h.s,n,_,ae,eN _,AI w _,eN _,o,u,?_⟩⟩ j k));rw[x,nU];grind
end
structure ee where
 next:Nat
 cU:List dw
structure dW where
 next:Nat
 l:List dL
 dZ:Option Addr
 cap:Nat
def dW.t(b:dW):ee:=⟨b.next,eM b.l⟩
def dW.sv(b:dW):c7:=bX b.dZ b.l.n b.cap
def dO(b:dW):Nat->c7:=λi=>if i=0 then bU ct b.next else b.sv
def fT(b:dW):∀i,(dO b i).oneCell'=cx:=by intro i;unfold dO;split<;>rfl
instance in5bfc3(x:dW):OF (dO x):=⟨fT x⟩
instance in4a6b3(b:dW):CV (dO b) 0 (bU ct b.next):=⟨rfl⟩
instance inbb8f1(b:dW):CV (dO b) 1 b.sv:=⟨rfl⟩
def iT(w:cS)(b:dW):Prop:=gu w b.sv b.l
def uZ(w:cS)(base:Nat)(b:dW):Prop:=Cj w base b.sv b.l
def lY(w':cS)(base:Nat)(B:gE)(t:ee):Prop:=∃c:dW,B=cL 2 (dO c)/\c.t=t/\uZ w' base c
def zn(b:ee):Prop:=b.cU.n<=1000000/\ajS b.cU
theorem zn.len{b:dW}(h:zn b.t):b.l.n<=1000000:=by have:=h.1;grind[dW.t,iu]
def nT:kg prog 99 2:=⟨⟨_,underlying99,ae⟩,dC⟩
instance in70724 :sE 99 2:=⟨nT⟩
def sS:lD prog 97:=⟨⟨_,underlying97,ae⟩,dC⟩
instance in7ce2d :ru 97:=⟨sS⟩
def xm:dW:=⟨0,[],cw,0⟩
def ot:(#[bU ct 0,bX cw 0 0]:gE)=cL 2 (dO xm):=rfl
instance in159c4 :ZR 99 2 (dO xm):=⟨_,sU,ot⟩
def RM:(prog.info? 109).map (λi=>(i.zero,i.s,i.bytes))=cu (cu (bV #[bU ct 0,bY ⟨#[]⟩,bZ cy,bU ct 0,bU ct 0,bU ct 0,bU cq 0,bU cq 0,bU ct 0,bU .u32 0,bX cw 0 0]),11,112):=dC
def Jn:xi prog 97 109 11 112:=⟨underlying97,_,RM,ae,cN⟩
theorem abl(n:Nat):(madeCells (cL 11 (iw nj)) (n*11)).t=jh (replicate n nj):=by apply xK;intro t;by_cases b:t<n*11;have e:t=t/11*11+t%11:=cN;have a:t%11<11:=mod_lt _ cN;unfold jh;(conv=>rhs;rw[e]);rw[flat_get Bb (replicate n nj) sp_ a];rw[getElem_replicate];unfold madeCells Uz;rw[mR,Array.getElem?_map,Array.getElem?_range,df b,mR,dy,df a];simp only[Ln,cW,yz];rw[Array.getElem!_eq_getD,Array.getD_eq_getD_getElem?,dy,df a];rfl;grind[size_madeCells,oz]
section
variable {X':cV->cS->Prop}
def St.DN(S:St w0 d l L O X w)(a:vB Y)(b:Y (eS L O) w):St w0 d l L O (λB w=>X B w/\Y B w) w:=
 ⟨S.fr,S.row,S.own,S.lo,S.nd,⟨S.x,b⟩,S.mh.still a⟩
def St.Bd(S:St w0 d l L O X w)(a:dR w w'){y:dL}(c:il w' w.h.s y.dv y.di):St w0 d l L O (λB w=>X B w/\J' y B w) w':=
 (S.cP a).DN (Ci y) ((sH.of c).x λb h=>S.lt b h)
def St.EY(S:St w0 d l L O X w)(h:∀B w,X B w->X' B w)(a:lO d X'):St w0 d l L O X' w:=
 ⟨S.fr,S.row,S.own,S.lo,S.nd,h _ _ S.x,a⟩
end
def Zr(n:Nat)(a:TypeInfo)(b:c7)(h:prog.info? 109=cu a)(c:a.zero=cu b):(madeCells b.cells (n*11)).t=jh (replicate n nj):=by have hi:=RM;rw[h] at hi;simp only[Ln,c,yz,I0] at hi;rw[hi.1];exact abl n
theorem UF{m:List dL}(c:k<m.n)(y:dL):Dw (jh m) (k*11) (cL 11 (iw y)).t=jh (m.set k y):=by refine Mx Bb m c y (by rw[zR,oz]) (λj b=>?_) λi j a b=>?_;rw[yP _ _ _ _ ams,df aG,show k*11+j-k*11=j by omega];rfl;rw[yP _ _ _ _ ams,cZ aG];rfl
theorem rf(m:List α)(a:k<m.n)(y:α):(m.set k y).take (k+1)=m.take k++[y]:=by simp_all[yv,take_set_of_le]
theorem Fm(l:List dL)(a:k<l.n):eM (l.take (k+1))=eM (l.take k)++[l[k].todw]:=by grind[eM,take_succ_eq_append_getElem]
def RN(k:Int)(a:Option Addr)(n c:Nat):prog.built 99 [(0,bU ct k),(1,bX a n c)]=cu #[bU ct k,bX a n c]:=dC
def rH(base:Nat)(x:dL):Prop:=0<x.di.n->∀b,x.dv.ownBlock=cu b->base<=b
def oL(m:List dL):cV->cS->Prop:=λB w=>∀x∈m,J' x B w
def jn(m:List dL):vB (oL m):=Jo m λx _=>Ci x
def My{g:Nat}{m:List dL}(e:m.n=n)(h:w.ownsRow w0.h.s 109 11 (bX (cu ⟨g,0,cw⟩) n c) n (jh m))(b:oL m B w)(d:∀x∈m,rH w0.h.s x):Cj w w0.h.s (bX (cu ⟨g,0,cw⟩) m.n c) m:=by subst e;exact⟨h,λx a=>⟨(b x a).1,d x a⟩⟩
section
attribute[local irreducible]wpList Code.wp Calls Oper.wp wpAnyH
def qJ(b:dW)(A:gE)(O:A=cL 2 (dO b))(M:zn b.t)(w:cS)(R:iT w b):CP_ 112 #[bV A] w λe w'=>∃B,e=cj (bV B)/\lY w' w.h.s B b.t/\dR w w':=by
 have U:=M.len;have T:rG b.l:=M.2;have⟨bn,l,ao,cap⟩:=b;change gu w (bX ao l.n cap) l at R;simp only at U T;have⟨n,r⟩:=dI l.n;have f:=(dP R.1);have R:=cz R;have X:=cz O;have F:dO ⟨bn,l,ao,cap⟩ 1=bX ao n cap:=by rw[<-r];rfl
 have u:=cz F;have L:=cz r;rw[r] at R U;have S:=qR w;have⟨ao',cap',he,hcap,f⟩:=f;simp only[ly] at he;obtain⟨rfl,-,rfl⟩:=he;rw[r] at hcap f;have f:=cz f;clear O F r M;go_enter func112,ntmps112;go_upto_region 3 with(first|refine yZ S rfl X.o rfl λW1 S=>?_|refine EC S 1 ae 1 (v:=bX ao n cap) u.o ?_|(refine ahN S (n:=n) Jn ae ae cN xZ ae ae (Zr n) λg W S=>?_;replace S:=S.EY (X':=oL []) (λ_ _ _ x t=>by cases t) (jn []).mh)|refine fg λW S=>?_);have S:=cz S;go_loopw [12] (λi wr=>∃(k:Nat)(m:List dL),k<=n/\i=bU cq k/\Hid (m.n=n/\eM (m.take k)=eM (l.take k)/\(∀x∈m.take k,rH w.h.s x)/\St w cw [] [⟨W1.h.s,99,2,dO xm⟩,⟨w.h.s,99,2,dO ⟨bn,l,ao,cap⟩⟩] [⟨109,11,bX (s_ g 0) n n,n,jh m⟩] (oL (m.take k)) wr)) (λi _=>n-(intOf i).m);exact anv;clear S;obtain⟨k,m,hk,rfl,hS⟩:=hrel;have⟨d,a,c,S⟩:=hS.o;clear hS;by_cases G:k<n
 . (obtain⟨b,o,rfl⟩:=f.o cN;have j:k<l.n:=by rw[L.o];exact G);have⟨x,t⟩:=dI (l[k]);have⟨D,q⟩:=fP (cL 11 (iw x));have H:=cz (nD l j (A:=D) (by rw[t];exact q));have I:=cz q;have K:=mP j;rw[t] at K;have V:=cz λW(s:dR w W)=>qy x D I.o (T.at K).1 W ((R.o.cP s).2 x K);have HX:=cz t;have C:=cz (And.intro d (And.intro a c));have p:k<m.n:=cN;have R1:Hid (c8 w 109 11 (bX (s_ b o) n cap) n (jh l)):=cz (by have:=R.o.1;rwa [L.o] at this);clear q K t d a c;go_wp2_with (first|(first|refine EC S 1 ae 1 (v:=bX (s_ b o) n cap) u.o ?_|refine AD (R1.o.cP S.b) G (vu I) H.o ?_)|(refine(V.o _ S.b).mono ?_;rintro e W ⟨B,y,rfl,Q,J,s⟩;have Y:=cz Q;have HF:=cz ann;replace S:=S.Bd s J.2;have HY:=cz J.1;clear s Q J)|refine aef S 0 rfl rfl k (by show k*11+11<=n*11;omega) rfl rfl Y.o uV (mI _) λW S=>?_);go_roundw;have⟨d,a,c⟩:=C.o;refine⟨k+1,m.set k y,cN,by go_num,cz ⟨by rw[xM];exact d,?_,?_,?_⟩⟩;rw[rf m p,Fm l j,<-a,HX.o,<-HY.o];unfold eM;rw[nL];rfl;rw[rf m p];intro z N;rcases gH.1 N with h|h;exact c z h;rw[fM.1 h];exact HF.o;rw[rf m p,<-UF p y];refine S.EY (λB w h z N=>?_) (jn _).mh;rcases gH.1 N with h2|h2;exact h.1 z h2;rw[fM.1 h2];exact h.2;exact pR
 . (obtain rfl:k=n:=cN;rw[nU cN] at a c S;rw[nU (by rw[L.o];exact eN _)] at a;have C:=cz (And.intro d (And.intro a c));obtain⟨D,q⟩:∃D:gE,D=#[bU ct bn,bX (s_ g 0) k k]:=⟨_,ae⟩;have E:D=cL 2 (dO ⟨bn,m,s_ g 0,k⟩):=by rw[q,<-d];rfl);have I:=cz q;have Z:=cz E;clear q E d a c;go_wp2_with first|refine lE (cells:=D) ae (by rw[I.o];exact RN _ _ _ _) ?_|(refine mA ?_;exact anf)|refine fL ?_|refine fg λW S=>?_
def Fo(p:dw->Bool)(l:List dL)(v:c7)(I:l.n<=1000000)(g:Nat)(B:gE)(w:cS)(F:∀args w,(callFunc g args).run prog w=.ok (.enter g args) w)(R:gu w v l)(hc:∀(k:Nat)x A W,l[k]?=cu x->A=cL 11 (iw x)->dR w W->CP_ g (#[bV A]++B) W λe w'=>e=cj (bZ (p x.todw))/\dR W w'):
 tf 176 #[v,.func (.func g) #[] B] w (bU cq (lF ((eM l).findIdx? p))):=by
 obtain⟨ao,cap,rfl,C,f⟩:=dP R.1;have D:=cz hc;clear hc;have R:=cz R;have f:=cz f;have S:=cz (qR w);go_enter func176,ntmps176;go_upto_region 2 with(fail);go_loopw [8] (λi wr=>∃k:Nat,k<=l.n/\i=bU cq k/\Hid ((∀(j:Nat)y,(eM l)[j]?=cu y->j<k->p y=cy)/\St w cw [] [] [] (λ_ _=>True) wr)) (λi _=>l.n-(intOf i).m);exact amm;clear S;obtain⟨k,H,rfl,hS⟩:=hrel;have⟨hold,S⟩:=hS.o;clear hS;by_cases c:k<l.n
 . (obtain⟨b,o,rfl⟩:=f.o cN;have⟨x,hx⟩:=dI (l[k]);have⟨A,hA⟩:=fP (cL 11 (iw x));have d:=cz (nD l c (A:=A) (by rw[hx];exact hA));have m:l[k]?=cu x:=by rw[jE c,hx]);have q:=cz λW E=>D.o k x A W m hA E;have t:=cz hA;have z:=cz m;have u:=cz hold;clear hA hx m hold;cases a:p x.todw with|true=>have n:=cz a;rw[a] at q;clear a;go_wp2_with (first|((with_reducible refine Wj ?_);refine AD (R.o.cP S.b).1 c (vu t) d.o ?_)|(show Calls _ _ _ _ _;refine je S (q.o _ S.b) λW S=>?_));go_ret;have a:(eM l).findIdx? p=cu k:=Ck (by rw[mZ,z.o];rfl) n.o u.o;exact⟨by rw[a];rfl,S.b⟩|false=>have n:=cz a;rw[a] at q;clear a;go_wp2_with (first|((with_reducible refine Wj ?_);refine AD (R.o.cP S.b).1 c (vu t) d.o ?_)|(show Calls _ _ _ _ _;refine je S (q.o _ S.b) λW S=>?_));go_roundw;refine⟨k+1,cN,by go_num,cz ⟨λj y s G=>?_,S⟩⟩;by_cases r:j=k;subst r;rw[mZ,z.o] at s;cases s;exact n.o;exact u.o j y s cN;exact pR
 . obtain rfl:k=l.n:=cN;have a:(eM l).findIdx? p=cw:=Cl (by rw[iu];exact hold);have n:=cz a;clear a hold;go_wp2;go_ret;exact⟨by rw[n.o];rfl,S.b⟩
theorem OR(x:dL)(A:gE)(a:A=cL 11 (iw x))(id E:Nat)(w:cS)(h:cM w E 82 1 (λ_=>bU ct id)):tf 177 #[bV A,bW (cu ⟨E,0,cw⟩)] w (bZ (decide (x.id=id))):=by
 have d:=cz a;have H:=cz h;clear a h;have b:(((x.id:Nat):Int)==((id:Nat):Int))=decide (x.id=id):=by grind
 have c:=cz b;clear b;have S:=qR w;go_enter func177,ntmps177;go_wp2_with (first|((with_reducible refine Wj ?_);refine zC (cM.cell (H.o.cP S.b) (i:=0) cN) ?_)|refine fL ?_|refine fg λW S=>?_);go_ret;exact anb
def wH(l:List dL)(v:c7)(id:Nat)(h:l.n<=1000000)(w:cS)(R:gu w v l):tf 131 #[v,bU ct id] w (bU cq (lF (fj (eM l) id))):=by have R:=cz R;have b:∀args w,(callFunc 177 args).run prog w=.ok (.enter 177 args) w:=enters_of func177 dC ae;have d:=cz λ(f:gE)W hR hc=>Fo (λx=>decide (x.id=id)) l v h 177 f W b hR hc;clear b;have S:=qR w;go_enter func131,ntmps131;go_wp2_with (first|(go_at_call 176;have c:=λ(k:Nat)(x:dL)(A:gE)W'(_:l[k]?=cu x)(g:A=cL 11 (iw x))a=>OR x A g id _ W' (cM.cP S.k0 a);refine(d.o #[dE _ 0] _ (R.o.cP S.b) c).mono ?_;clear c;rintro e W ⟨rfl,a⟩;replace S:=S.cP a)|refine fg λW S=>?_);go_ret;exact az
def vC(cT:fF):Option fF:=
 match eO cT with
 |none=>cw
 |some (v,s)=>if s=sG then cu v else cw
def pG(cT:fF):Option (fF×fF):=
 match eO cT with
 |none=>cw
 |some (v,s)=>if s=sG then cw else cu (v,s)
def DO(s:fF)(d:s.s<=140737488355328)(w:cS):tf 140 #[bY s] w (cg #[bY ((vC s).getD sG),bU cq (gi 141 (vC s))]):=by
 have b:=cz (tC s d);have S:=qR w;rcases hn:eO s with _|p;have c:Hid (vC s=cw):=cz (by unfold vC;rw[hn]);rw[hn] at b;clear hn;rotate_left;have⟨v,t⟩:=p;rw[hn] at b;by_cases a:t=sG;have c:Hid (vC s=cu v):=cz (by unfold vC;rw[hn];simp only[a,oR]);subst a;unfold sG at b;clear hn;rotate_left;have c:Hid (vC s=cw):=cz (by unfold vC;rw[hn];simp only[a,mq]);have e:=Ba a;clear hn a
 all_goals
  rw[c.o];go_enter func140,ntmps140
  go_wp2_with refine je S (b.o _) λW S=>?_
  go_ret2;exact az
def Cm(s:fF)(d:s.s<=140737488355328)(w:cS):tf 111 #[bY s] w (cg #[bY ((pG s).getD (sG,sG)).1,bY ((pG s).getD (sG,sG)).2,bU cq (gi 141 (pG s))]):=by
 have b:=cz (tC s d);have S:=qR w;rcases hn:eO s with _|p;have c:Hid (pG s=cw):=cz (by unfold pG;rw[hn]);rw[hn] at b;clear hn;rotate_left;have⟨v,t⟩:=p;rw[hn] at b;by_cases a:t=sG;have c:Hid (pG s=cw):=cz (by unfold pG;rw[hn];simp only[a,oR]);subst a;unfold sG at b;clear hn;rotate_left;have c:Hid (pG s=cu (v,t)):=cz (by unfold pG;rw[hn];simp only[a,mq]);have e:=Ba a;clear hn a
 all_goals
  rw[c.o];go_enter func111,ntmps111
  go_wp2_with refine je S (b.o _) λW S=>?_
  go_ret3;exact az
def k8(s:List dw)(cT:fF):Option Nat:=(nJ s cT).1.bind λk=>fj s (dH s k).id
theorem RO(s:List dw)(cT:fF):(∃c:Int,c≠0/\nJ s cT=(cw,c))∨∃k,k<s.n/\nJ s cT=(cu k,0):=by unfold nJ;split;grind;split;grind;next i h1=>have hi:i<s.n:=(IZ.1 h1).1;split;grind;split;grind;next j h2=>exact .inr ⟨j,(IZ.1 h2).1,ae⟩
def yj(b:dW)(A:gE)(m:A=cL 2 (dO b))(j:zn b.t)(cT:fF)(l:cT.s<=140737488355328)(w:cS)(R:iT w b):tf 113 #[bV A,bY cT] w (bU cq (lF (k8 b.t.cU cT))):=by
 have n:=j.len;have s:=cz m;have R:=cz R;have g:=cz λW(a:dR w W)=>Hm b.l b.sv cT l n j.2 W (R.o.cP a);have o:=cz λid W(a:dR w W)=>wH b.l b.sv id n W (R.o.cP a);have S:=qR w;clear m j;show Calls _ _ _ _ λe w'=>e=cj (bU cq (lF (k8 (eM b.l) cT)))/\_;rcases RO (eM b.l) cT with⟨c,hc,d⟩|⟨k,t,d⟩
 . have i:Hid (k8 (eM b.l) cT=cw):=cz (by unfold k8;rw[d];rfl);rw[d] at g;have r:(c !=0)=cx:=fJ.2 hc;clear d hc;rw[i.o];go_enter func113,ntmps113;go_wp2_with (first|(refine ah (g.o _ S.b) λB W⟨⟨y,f,h,ho⟩,a⟩=>?_;have p:=cz f;replace S:=S.cP a;clear a f h)|refine fL ?_|refine fg λW S=>?_);go_ret;exact az
 . have⟨x,HX⟩:=sO ((dH (eM b.l) k).id);have i:Hid (k8 (eM b.l) cT=fj (eM b.l) x):=cz (by unfold k8;rw[d,<-HX.o];rfl);rw[d] at g;rw[i.o];clear d;go_enter func113,ntmps113;go_wp2_with (first|(refine ah (g.o _ S.b) λB W⟨⟨y,f,h,ho⟩,a⟩=>?_;have p:=cz f;have q:Hid (Value.int ct y.id=bU ct x):=cz (by rw[<-HX.o];show Value.int ct y.todw.id=_;rw[h];rfl);replace S:=S.cP a;clear a f h)|refine EC S 0 ae 0 (v:=bU ct x) q.o ?_|refine je S (o.o x _ S.b) λW S=>?_|refine fL ?_|refine fg λW S=>?_);go_ret;exact az
def nK(s:List dw)(cT:fF):Option Nat×Int:=
 match vC cT with
 |none=>(cw,141)
 |some _=>match k8 s cT with
  |none=>(cw,172)
  |some i=>(cu i,0)
def Jp(b:dW)(A:gE)(f:A=cL 2 (dO b))(g:zn b.t)(cT:fF)(c:cT.s<=140737488355328)(w:cS)(R:iT w b):tf 127 #[bV A,bY cT] w (cg #[bU cq (lF (nK b.t.cU cT).1),bU cq (nK b.t.cU cT).2]):=by
 have k:=cz f;have R:=cz R;have d:=cz (DO cT c);have a:=cz λW(h:dR w W)=>yj b A f g cT c W (R.o.cP h);have S:=qR w;clear f g;rcases hv:vC cT with _|vv;have e:Hid (nK b.t.cU cT=(cw,141)):=cz (by unfold nK;rw[hv]);rw[hv] at d;rotate_left;rw[hv] at d;rcases hi:k8 b.t.cU cT with _|i;have e:Hid (nK b.t.cU cT=(cw,172)):=cz anM;rw[hi] at a;simp only[lF] at a;rotate_left;have e:Hid (nK b.t.cU cT=(cu i,0)):=cz anM;rw[hi] at a;simp only[lF] at a;have j:¬((i:Int)<0):=cN
 all_goals
  first|clear hv hi|clear hv
  rw[e.o];go_enter func127,ntmps127
  go_wp2_with first|refine je S (d.o _) λW S=>?_|refine je S (a.o _ S.b) λW S=>?_|refine fg λW S=>?_|refine fL ?_
  go_ret2;exact az
end