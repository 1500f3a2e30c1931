/- Part 12. No conditions. -/
import Derived.Test.YtklligbjoplbgaaGreatNak
set_option linter.all false
namespace Go.Proofs.YtklligbjoplbgaaGreat
set_option maxRecDepth 100000
set_option maxHeartbeats 64000000
open Go.RowKit Lib List Nat _root_.Go.Proofs.Tryz Go.Shelf
variable {c:dD}{d e:Dv}{x:GT}{b:cD}{O:List O4}{iV ps:List cy}{L:List R4}{l:List cR}{K N a base i k top:Nat}{D E:Nat->cD}{A B:Nat->Prop}{s t u:Pl}{r:Pl×(cy×Int)}{q q2 cz:cy}{f g:cy->Nat->cy}{j j' sn v v' y:cR}{M:cR->Prop}{w w':cB}
def tG(d:Dv):GT:=⟨rP,[],lz,⟨d,λ_=>0,0,0⟩⟩
noncomputable def Dm(u:qi)(r:Pl×(dS×(List (Int×Int)×(List cy×Int)))):GT×Int:=
 if r.2.2.2.2≠0 then(tG r.1.dv,r.2.2.2.2) else
 if 281474976710652<u.lD∨281474976710652<r.2.1.next∨281474976710652<u.cA then(tG r.1.dv,192) else
 (⟨r.2.1,r.2.2.2.1,u,⟨r.1.dv,Cs r.1.mp (ox r.2.2.1),iA u.cA,u.cA⟩⟩,0)
noncomputable def zT(d:Dv)(o:Option qi):GT×Int:=
 if o.isSome=false then(tG d,91) else
 if(o.getD lz).fB≠d.n then(tG d,91) else
 if(o.getD lz).len≠40 then(tG d,91) else
 Dm (o.getD lz) (ji ⟨d,qR d.n,0,0⟩ (o.getD lz).gJ)
noncomputable def oP(d:Dv):GT×Int:=if d.cO=true then(tG d,42) else zT (eZ d).1 (eZ d).2
section
variable {w0:cB}{d:Option Nat}{l:cD}{X X':cD->cB->Prop}
theorem St.agZ(S:St w0 d l L O X w)(t:dC)(g:∀r∈L,r.t≠t)(h:∀o∈O,o.e≠t):∀b∈dM L O,gx w b≠some t:=by intro b c e;rcases gy.1 c with⟨r,f,rfl⟩|⟨o,ho,a⟩;rw[cu.ty (S.row r f).1] at e;grind;rw[uQ (S.own o ho).1 a] at e;grind
def St.TW(S:St w0 d l L O X w){q:cI}(g:tp w base c)(j:gg w base q ps)(m:∀r∈L,r.t≠109)(h:∀r∈L,r.t≠106)(n:∀o∈O,o.e≠109)(i:∀o∈O,o.e≠106):
 St w0 d l L O (λB w=>(X B w/\qA c.sv c.l B w)/\xL 106 3 q ps.length (gY ps) B w) w:=
 (S.B6 (eT c.sv c.l) ⟨⟨cK.iW g.1,λf b a e=>S.agZ 109 m n b e (cK.ty (cK.iW g.1) a f)⟩,
  λx k=>⟨(g.2 x k).1,λf b a e=>S.agZ 106 h i b e (cK.ty (g.2 x k).1 a f)⟩⟩).B6 (eI 106 3 q _ _ ae ae) ⟨cK.iW j,λf b a e=>S.agZ 106 h i b e (cK.ty (cK.iW j) a f)⟩
end
section
attribute[local irreducible]wpList Code.wp Calls Oper.wp wpAnyH
def NK(D:Nat)(d:Dv)(w:cB)(a:iK w D d):
 CP_ 60 #[.pointer (some ⟨D,0,none⟩)] w λe w'=>∃v,e=.returned (.tuple #[v,.int .i64 (oP d).2])/\acX w' w.heap.size D (oP d).1 (oP d).2 v/\Fr (some D) [] w w':=by
 have S:=St.start w (some D) [] (fG D d) a;have C1:=cq λW(X:iK W D d)=>J0 D d W X;have C2:=cq λW(X:iK W D d)=>FH D d W X;obtain⟨T,hT⟩:=c8 (oP d);have f:=cq (show(if d.cO=true then(tG d,42) else zT (eZ d).1 (eZ d).2)=T from by rw[<-hT];rfl);have H:=(tB d a.1.nw).2.2;obtain⟨I,J⟩:=c8 ((eZ d).1);obtain⟨o,ho⟩:=c8 ((eZ d).2);obtain⟨dd,L⟩:=c8 d.cO;rw[hT];rw[J,ho,L] at f;rw[J,ho] at C2;rw[L] at C1;rw[ho] at H;clear a hT J ho L;go_enter func60,ntmps60;cases dd with
 |true=>rw[cL rfl] at f;go_wp2_with (go_at_call 82;refine lB (C1.o _ S.x) ?_;);go_ret2;rw[<-f.o];exact⟨_,rfl,⟨λh=>absurd (show(42:Int)=0 from h) jR,λ_=>⟨rfl,S.x⟩⟩,S.fr⟩
 |false=>
  rw[cM jR] at f;obtain⟨u,hu⟩:=c8 (o.getD lz);obtain⟨th,a9⟩:=c8 o.isSome;unfold zT at f;rw[hu,a9] at C2 f;rw[hu] at H;have HU:=cq H;clear hu a9 H
  go_upto_region 4 with(first|(go_at_call 82;refine lB (C1.o _ S.x) ?_;)|(go_at_call 83;refine(C2.o _ S.x).mono ?_;rintro e C ⟨U,rfl,hU,hd,E⟩;have a2:=cq hU;replace S:=S.call E (λD e=>e) dU (fG D I) (λB h=>hd);clear hU hd)|refine ey λW S=>?_)
  have R:=cq λW(X:iK W D I)=>yT D I W X;obtain⟨n,HN⟩:=q8 I.n;have b7:n<=1024:=by rw[<-HN.o];obtain⟨_,sb,nb,pv,h1⟩:=S.x;exact h1.pK
  rw[HN.o] at R f;cases th with
  |false=>
   rw[cL rfl] at f;obtain rfl:=f.o;refine dL S cX λW S=>?_;refine cJ 0 _ ?_;refine cJ 1 (.bool true) ?_;refine cJ 2 _ ?_;refine oA 3 ?_;refine oA 4 ?_;refine oA 5 ?_;refine oA 6 ?_;refine oA 7 ?_;refine cJ 8 (.bool true) ?_;refine cJ 9 _ ?_;refine oA 10 ?_;refine oA 11 ?_;refine oA 12 ?_;refine cJ 13 (.bool true) ?_;refine pz ?_;go_wp2;go_ret2;exact⟨_,rfl,⟨λh=>absurd (show(91:Int)=0 from h) jR,λ_=>⟨rfl,S.x⟩⟩,S.fr⟩
  |true=>
   rw[cM jR] at f;by_cases q1:u.fB=n
   case neg=>
    have e1:((u.fB:Int)!=(n:Int))=true:=by rw[eO];omega
    rw[cL q1] at f;obtain rfl:=f.o;clear q1;refine dL S cX λW S=>?_;refine cJ 0 _ ?_;refine cJ 1 (.bool false) ?_;refine cJ 2 _ ?_;refine cJ 3 (cZ C.heap.size 6) ?_;refine cJ 4 (.int .i64 u.fB) ?_;refine cJ 5 _ ?_;refine jQ 6 λK g=>?_
    go_wp2_with fail
    refine lB (R.o _ S.x) ?_;refine fC g ?_;refine cJ 7 (.bool true) ?_;refine cJ 8 (.bool true) ?_;refine cJ 9 _ ?_;refine oA 10 ?_;refine oA 11 ?_;refine oA 12 ?_;refine cJ 13 (.bool true) ?_;refine pz ?_;go_wp2;go_ret2;exact⟨_,rfl,⟨λh=>absurd (show(91:Int)=0 from h) jR,λ_=>⟨rfl,S.x⟩⟩,S.fr⟩
   rw[cM (λh=>h q1)] at f;have e1:((u.fB:Int)!=(n:Int))=false:=by rw[tX,q1]
   clear q1;by_cases q2:u.len=40
   case neg=>
    have e2:((u.len:Int) !=40)=true:=by rw[eO];omega
    rw[cL q2] at f;obtain rfl:=f.o;clear q2;refine dL S cX λW S=>?_;refine cJ 0 _ ?_;refine cJ 1 (.bool false) ?_;refine cJ 2 _ ?_;refine cJ 3 (cZ C.heap.size 6) ?_;refine cJ 4 (.int .i64 u.fB) ?_;refine cJ 5 _ ?_;refine jQ 6 λK g=>?_
    go_wp2_with fail
    refine lB (R.o _ S.x) ?_;refine fC g ?_;refine cJ 7 (.bool false) ?_;refine cJ 8 (.bool false) ?_;refine cJ 9 _ ?_;refine cJ 10 (cZ C.heap.size 5) ?_;refine cJ 11 (.int .i64 u.len) ?_;refine cJ 12 (.bool true) ?_;refine cJ 13 (.bool true) ?_;refine pz ?_;go_wp2;go_ret2;exact⟨_,rfl,⟨λh=>absurd (show(91:Int)=0 from h) jR,λ_=>⟨rfl,S.x⟩⟩,S.fr⟩
   rw[cM (λh=>h q2)] at f;have e2:((u.len:Int) !=40)=false:=by rw[tX,q2];rfl
   clear q2;refine dL S cX λW S=>?_;refine cJ 0 _ ?_;refine cJ 1 (.bool false) ?_;refine cJ 2 _ ?_;refine cJ 3 (cZ C.heap.size 6) ?_;refine cJ 4 (.int .i64 u.fB) ?_;refine cJ 5 _ ?_;refine jQ 6 λK g=>?_
   go_wp2_with fail
   refine lB (R.o _ S.x) ?_;refine fC g ?_;refine cJ 7 (.bool false) ?_;refine cJ 8 (.bool false) ?_;refine cJ 9 _ ?_;refine cJ 10 (cZ C.heap.size 5) ?_;refine cJ 11 (.int .i64 u.len) ?_;refine cJ 12 (.bool false) ?_;refine cJ 13 (.bool false) ?_;refine pz ?_;have C4:=cq λW(s:w.heap.size<=W.heap.size)=>(PN (n:Nat) (by unfold ee;omega) W).mono λe w'(p:_/\_/\_)=>(show∃k,e=.returned (cZ k 0)/\w.heap.size<=k/\eE w' k (qR n)/\dz W w' from⟨_,p.1,s,p.2.1,p.2.2⟩);have C5:=cq λj(a b:Nat)W(s:w.heap.size<=W.heap.size)=>(yC D j a b W).mono λe w'(p:_/\_/\_)=>(show∃k,e=.returned (cZ k 0)/\w.heap.size<=k/\k7 w' k D j a b/\dz W w' from⟨_,p.1,s,p.2.1,p.2.2⟩);have C6:=cq λz j W(X:ej W z D j ⟨I,qR n,0,0⟩)=>Gk z D j ⟨I,qR n,0,0⟩ u.gJ HU.o.2.2.1 W X;obtain⟨A,hA⟩:=eW (ct 3 (c7 u.gJ));rw[cP hA] at C6;have HA:=cq hA;obtain⟨r,hr⟩:=c8 (ji ⟨I,qR n,0,0⟩ u.gJ);rw[hr] at C6 f;obtain⟨s2,bk,sp,ps,c⟩:=r;simp only at C6;have b1:gU u.cA:=HU.o.2.1;have b5:=cq b1;obtain⟨n3,F⟩:=c8 (iA u.cA);have w1:IntKind.u64.wrap ((u.cA:Int)+1)=((n3:Nat):Int):=by rw[<-F];exact uU _
   unfold Dm at f;simp only at f;rw[F] at f;have b2:=cq (show gU n3 by rw[<-F];exact BP _);clear hA hr b1 F
   go_upto_region 7 with(first|(go_at_call 84;refine lB (R.o _ S.x) ?_;)|(go_at_call 86;refine(C4.o _ S.fr.size).mono ?_;rintro e W ⟨j,rfl,a3,y,s⟩;have Z:=cq a3;replace S:=(S.cx s).uZ y rfl;clear y s a3))
   refine dN S cX [⟨C.heap.size,143,7,kb u⟩] Be λW S=>?_;refine cJ 0 _ ?_;refine cJ 1 _ ?_;refine cJ 3 (cZ C.heap.size 2) ?_;refine fW 4 (.agg A) rfl (yKn (λw h=>h.row 0 rfl) (o:=2) (m:=3) rfl (c7 u.gJ) (show 2+3<=7 by decide) (λi hi=>BV i hi) HA.o eN) ?_
   repeat' first|refine Rp ?_|refine mi 6 _ ?_|refine mi 7 (.agg B) ?_|refine mi 8 (.slice ra sp.length rc) ?_|refine mi 9 (.slice qa ps.length qc) ?_|refine mi 10 (.int .i64 c) ?_|refine mi 13 _ ?_|refine mi 14 _ ?_|refine mi 15 _ ?_|refine zX 2 11 (λK g=>?_) λK g=>?_|refine oJ 2 λK g=>?_|refine oJ 5 λK g=>?_|refine oJ 12 λK g=>?_|refine zX 5 11 (λK g=>?_) λK g=>?_|refine oJ 11 λK g=>?_|(refine fu S rl mZ rfl λE9 W S=>?_;refine fC g ?_)|(go_wp2_with fail;refine(C5.o j 0 0 _ S.fr.size).mono ?_;rintro e W ⟨z,rfl,a4,y,s⟩;have b6:=cq a4;replace S:=((S.cx s).uZ y rfl).Dx (X':=Bq z D j ⟨I,qR n,0,0⟩) (λB w h=>⟨h.2,h.1.1,h.1.2,⟨(show(0:Nat)<18446744073709551616 by decide),(show(0:Nat)<18446744073709551616 by decide)⟩⟩) (dw z D j _);clear y s a4;refine fC g ?_)|(go_wp2_with fail;refine(C6.o z j _ S.x).mono ?_;rintro e W ⟨B,r,q,rfl,⟨l,hB,hc,a7⟩,N,O,M,a8,hp,E⟩;have HB:=cq hB;have HC:=cq hc;have b4:=cq a8;have a1:=cq (And.intro (show∀x∈sp,ee x.1/\ee x.2 from by obtain⟨_,_,_,_,p,_⟩:=O;exact p) (show sp.length<=9223372036854775807 from by obtain⟨_,_,_,p,_⟩:=O;exact p));have V:=cq (cS N);have Y:=cq (cS M);replace S:=(S.sf E (λD e=>e) dU (dw z D j s2) (λB h=>hp) N rfl rfl).TW a7 M dU dU dU dU;clear hB hc a7 N O M a8;obtain⟨ra,rc,rfl⟩:=V.o;obtain⟨qa,qc,rfl⟩:=Y.o;clear V Y;refine fC g ?_)|(refine ju S 0 rfl rfl rfl HB.o mP (eY _) λW S=>?_;refine fC g ?_)
   all_goals(
    refine cq ?_;obtain rfl:=HC.o;clear HC;by_cases g2:c=0
    case neg=>
     have g3:(c !=0)=true:=eO.2 g2;have t:=cq g2;rw[cL g2] at f;obtain rfl:=f.o;clear g2;go_wp2;go_ret2;exact⟨_,rfl,⟨λh=>absurd h t.o,λ_=>⟨rfl,S.x.1.1.dev⟩⟩,S.fr⟩
    subst g2;rw[cM (show¬((0:Int)≠0) from λh=>h rfl)] at f;have t:Hid (¬(192:Int)=0):=cq jR;by_cases Q:281474976710652<u.lD
    case pos=>
     have i1:decide ((281474976710652:Int)<(u.lD:Int))=true:=fQ cw;rw[cL (.inl Q)] at f;obtain rfl:=f.o;clear Q
     go_wp2_with (with_reducible refine jl 50 82 49 S 1 0 (.int .u64 u.lD) ?_)
     go_ret2;exact⟨_,rfl,⟨λh=>absurd h t.o,λ_=>⟨rfl,S.x.1.1.dev⟩⟩,S.fr⟩
    have i1:decide ((281474976710652:Int)<(u.lD:Int))=false:=iC cw;by_cases m2:281474976710652<l.next
    case pos=>
     have i2:decide ((281474976710652:Int)<(l.next:Int))=true:=fQ cw;rw[cL (.inr (.inl m2))] at f;obtain rfl:=f.o;clear Q m2
     go_wp2_with first|(with_reducible first|refine jl 50 82 49 S 1 0 (.int .u64 u.lD) ?_|refine jm 54 82 53 S 0 0 (.int .u64 l.next) ?_)
     go_ret2;exact⟨_,rfl,⟨λh=>absurd h t.o,λ_=>⟨rfl,S.x.1.1.dev⟩⟩,S.fr⟩
    have i2:decide ((281474976710652:Int)<(l.next:Int))=false:=iC cw;by_cases m3:281474976710652<u.cA
    case pos=>
     have i3:decide ((281474976710652:Int)<(u.cA:Int))=true:=fQ cw;rw[cL (.inr (.inr m3))] at f;obtain rfl:=f.o;clear Q m2 m3
     go_wp2_with first|(with_reducible first|refine jl 50 82 49 S 1 0 (.int .u64 u.lD) ?_|refine jm 54 82 53 S 0 0 (.int .u64 l.next) ?_|refine jm 59 82 58 S 1 1 (.int .u64 u.cA) ?_)
     go_ret2;exact⟨_,rfl,⟨λh=>absurd h t.o,λ_=>⟨rfl,S.x.1.1.dev⟩⟩,S.fr⟩
    have i3:decide ((281474976710652:Int)<(u.cA:Int))=false:=iC cw;rw[cM (λh=>h.elim Q λh=>h.elim m2 m3)] at f;obtain rfl:=f.o;clear Q m2 m3;have C7:=cq λv W hv(X:eE W j s2.mp)=>TV sp v j s2.mp W hv X
    go_upto_region 13 with(first|(with_reducible first|refine jl 50 82 49 S 1 0 (.int .u64 u.lD) ?_|refine jm 54 82 53 S 0 0 (.int .u64 l.next) ?_|refine jm 59 82 58 S 1 1 (.int .u64 u.cA) ?_)|(go_at_call 123;refine(C7.o _ _ (sR S.o0 a1.o.1 a1.o.2) S.x.1.1.map).mono ?_;rintro e W ⟨rfl,y,E⟩;have a6:z≠j:=qh (cu.ty S.x.1.1.row) (cu.ty S.x.1.1.map) jR;replace S:=S.call (X':=λB w=>(Bq z D j {s2 with mp:=Cs s2.mp (ox sp)} B w/\qA l.sv l.l B w)/\xL 106 3 (.slice qa ps.length qc) ps.length (gY ps) B w) E (λD e=>by cases e) (λk hk=>.inr (by rw[eV.1 hk];exact Z.o)) (((dw z D j _).still (eT l.sv l.l)).still (eI 106 3 _ _ _ rfl rfl)) (λB h=>⟨⟨⟨cu.fr h.1.1.row E (.inl rfl) (.inr (λp=>a6 (eV.1 p))),h.1.1.dev.fr E,y,h.1.1.ok⟩,(eT l.sv l.l).fr h.1.2 E⟩,(eI 106 3 _ _ _ rfl rfl).fr h.2 E⟩);clear y a6))
    refine dN S cX [⟨E9,99,2,dk l⟩,⟨C.heap.size,143,7,kb u⟩] Be λW S=>?_;refine cJ 0 _ ?_;refine cJ 1 _ ?_;refine cJ 2 (cZ C.heap.size 1) ?_;refine cJ 3 (.int .u64 u.cA) ?_;refine cJ 4 (.int .u64 n3) ?_;refine cJ 5 (cZ C.heap.size 1) ?_;refine cJ 6 (.int .u64 u.cA) ?_;refine fW 8 (.agg B) rfl (pZ (λw h=>h.row 0 rfl) rfl HB.o mP) ?_;refine cJ 9 _ ?_;refine fW 10 (.agg U) rfl (pZ (λw h=>h.row 1 rfl) rfl a2.o DN) ?_;refine jQ 7 λK g=>?_
    go_wp2_with fail
    refine(C5.o j n3 u.cA _ S.fr.size).mono ?_;rintro e W ⟨P3,rfl,a5,y,s⟩;have b3:=cq a5;replace S:=(S.cx s).uZ y rfl;clear y s a5;refine fC g ?_;refine fW 11 (.agg (ct 11 (uF ⟨P3,l,ps,qa,qc,u⟩))) rfl (xO rfl (by rw[HB.o,a2.o];kernel_rfl)) ?_;refine jQ 12 λK g=>?_;refine TJ S rfl rfl rfl λG W hG S=>?_;refine fC g ?_;refine cJ 13 _ ?_;refine cJ 14 _ ?_;refine pz ?_;go_wp2;go_ret2;exact⟨_,rfl,⟨λ_=>⟨G,⟨P3,l,ps,qa,qc,u⟩,j,rfl,hG,b3.o,Z.o,⟨S.x.2,⟨S.x.1.2,S.x.1.1.1.1.dev,S.x.1.1.1.1.map,⟨b2.o,b5.o⟩⟩,S.x.1.1.1.2.sl,S.x.1.1.2.1⟩,rfl,b4.o⟩,λh=>absurd rfl h⟩,S.fr⟩)
def TX(G D M:Nat)(g:gX)(s:Pl)(z:eQ g.b.t)(Z:g.dx.length<=100000)(cC:fh)(N:cC.size<=140737488355328)(n:Int)(t j:Nat)(w:cB)(h:dF w G g D M s)(v:cu w t 9 1 (λ_=>.string cC))(y:cu w j 3 1 (λ_=>.int .i64 n)):
 CP_ 76 (#[.agg (ct 1 λ_=>.pointer (some ⟨G,0,none⟩))]++ #[.pointer (some ⟨t,0,none⟩),.pointer (some ⟨j,0,none⟩)]) w λe w'=>yb w w' G D M g (mH cC n (g.gt s)) e:=by
 show CP_ 76 #[.agg (ct 1 λ_=>cZ G 0),cZ t 0,cZ j 0] w _;obtain⟨A,u⟩:=eW (ct 1 (λ_=>cZ G 0));rw[<-u];have HA:=cq u;have S:=St.start w (some D) [G,M,g.P] (gw G g D M s) h.x;have V:=cq λW(X:dF W G g D M s)=>y7 G D M g s A u z.fit W X;have C2:=cq λW(X:dF W G g D M s)=>kP G D M g s z.fit W X;have E:=cq λ(c:dD)(B:fJ)(k:B=ct 2 (dk c))(hc:c.t=g.b.t)W(R:gV W c)=>(show CP_ 77 #[.agg B,.string cC,.int .i64 n] W λe w'=>∃B,e=.returned (.tuple #[.agg B,.int .i64 (jh g.b.t cC n).2])/\kT w' W.heap.size B (jh g.b.t cC n).1/\dz W w' from by rw[<-hc];exact Li c B k (by rw[hc];exact z.fit) cC N n W R);have d:=Bm z cC n;have f:=cq (show mH cC n (g.gt s)=if 281474976710651<g.b.next then(g.gt s,192) else qI (g.gt s) (jh g.b.t cC n) from ae);obtain⟨T,J⟩:=c8 (mH cC n (g.gt s));obtain⟨r,O⟩:=c8 (jh g.b.t cC n);rw[J,O] at f;rw[J];rw[O] at E d;obtain⟨I,c⟩:=r;simp only at E d;have C4:=cq λ(j:dD)(B:fJ)(k:B=ct 2 (dk j))(hc:j.t=I)W(X:dF W G g D M s)R=>r5 G D M g s j B k (by rw[hc];exact d.fit) W X R;have C5:=cq λ(l:dD)(hc:l.t=I)W(X:dF W G {g with b:=l} D M s)=>(show rF 57 #[.agg A] W (.int .i64 (zS (sC (g.gt s) I))) from by rw[<-hc];exact yH G D M {g with b:=l} s A u (show eQ l.t by rw[hc];exact d) W X (gO Z jR));have F:=cq v;have H:=cq y;clear h u z Z J O d v y;go_enter func76,ntmps76;by_cases m:281474976710651<g.b.next
 case pos=>rw[cL m] at f;have dm:decide (281474976710651<g.b.next)=true:=fQ m;clear m;go_wp2_with (first|refine je S (V.o _ S.x.at) λW S=>?_|refine eR ?_|refine ey λW S=>?_);go_ret;rw[f.o];exact aO
 rw[cM m] at f;have dm:decide (281474976710651<g.b.next)=false:=iC m;clear m;go_upto_region 3 with(first|refine je S (V.o _ S.x.at) λW S=>?_|refine eR ?_|refine ey λW S=>?_);refine dN S cX [⟨w.heap.size,118,1,λ_=>cZ G 0⟩] Be λW S=>?_;refine cJ 0 (cZ w.heap.size 0) ?_;refine cJ 1 (cZ G 0) ?_;refine fW 3 (.string cC) ae (fR (λw h=>cu.cell (cu.fr F.o h.fr au ax) (i:=0) cw) ae ET) ?_;refine fW 4 (.int .i64 n) ae (fR (λw h=>cu.cell (cu.fr H.o h.fr au ax) (i:=0) cw) ae BU) ?_;repeat' first|refine Rp ?_|refine mi 6 _ ?_|refine mi 7 (.agg U) ?_|refine mi 8 (.int .i64 c) ?_|refine mi 11 _ ?_|refine zX 2 9 (λK a=>?_) λK a=>?_|refine oJ 2 λK a=>?_|refine oJ 5 λK a=>?_|refine oJ 10 λK a=>?_|refine zX 5 9 (λK a=>?_) λK a=>?_|refine oJ 9 λK a=>?_|(refine fu S rl mZ ae λE9 W S=>?_;refine fC a ?_)|(go_wp2_with fail;refine ag (C2.o _ S.x.at) λB W⟨⟨t,k,hc,ho⟩,L⟩=>?_;have HB:=cq k;have HC:=cq hc;replace S:=S.jv L ho;clear k hc;refine fC a ?_)|(go_wp2_with fail;refine ag (E.o t B HB.o HC.o _ ⟨S.q0,λx Q=>(S.x.2 x Q).1⟩) λU W⟨⟨j,k,hc,ho⟩,L⟩=>?_;have o:=cq k;have p:=cq hc;replace S:=S.jv L ho;clear k hc;refine fC a ?_)|(refine ju S 0 ae ae ae o.o mP (eY _) λW S=>?_;refine fC a ?_)
 all_goals(
  refine cq ?_;unfold qI at f;simp only at f;by_cases C:c=0
  case neg=>
   have g3:(c !=0)=true:=eO.2 C;rw[cL C] at f;clear C;go_wp2;go_ret;rw[f.o];exact bC
  subst C;rw[cM aE] at f
  go_wp2_with first|(refine ag (C4.o j U o.o p.o _ S.x.1.1.at ⟨S.q0,λx Q=>(S.x.2 x Q).1⟩) λl W⟨hc,Y,ho,hf⟩=>?_;have q:=cq (hc.trans p.o);replace S:=(S.Dx (λB w h=>h.1.1) (gw G g D M s)).Wb Y ho hf aV;clear hc Y)|refine je S (C5.o l q.o _ S.x.at) λW S=>?_|refine eR ?_
  go_ret;rw[f.o];exact⟨{g with b:=l},s,ae,ae,S.x.at,by unfold gX.gt sC;rw[<-q.o],id,S.fr⟩)
def Wi(G D M:Nat)(g:gX)(s:Pl)(z:eQ g.b.t)(hl:g.dx.length<=100000)(cC a:fh)(N:cC.size<=140737488355328)(Q:a.size<=140737488355328)(t k:Nat)(w:cB)(h:dF w G g D M s)(v:cu w t 9 1 (λ_=>.string cC))(y:cu w k 9 1 (λ_=>.string a)):
 CP_ 96 (#[.agg (ct 1 λ_=>.pointer (some ⟨G,0,none⟩))]++ #[.pointer (some ⟨t,0,none⟩),.pointer (some ⟨k,0,none⟩)]) w λe w'=>yb w w' G D M g (qJ cC a (g.gt s)) e:=by
 show CP_ 96 #[.agg (ct 1 λ_=>cZ G 0),cZ t 0,cZ k 0] w _;obtain⟨A,u⟩:=eW (ct 1 (λ_=>cZ G 0));rw[<-u];have HA:=cq u;have S:=St.start w (some D) [G,M,g.P] (gw G g D M s) h.x;have Y:=cq λW(X:dF W G g D M s)=>y7 G D M g s A u z.fit W X;have C2:=cq λW(X:dF W G g D M s)=>kP G D M g s z.fit W X;have E:=cq λ(c:dD)(B:fJ)(l:B=ct 2 (dk c))(hc:c.t=g.b.t)W(R:gV W c)=>(show CP_ 97 #[.agg B,.string cC,.string a] W λe w'=>∃B,e=.returned (.tuple #[.agg B,.int .i64 (jH g.b.t cC a).2])/\kT w' W.heap.size B (jH g.b.t cC a).1/\dz W w' from by rw[<-hc];exact Ng c B l (by rw[hc];exact z.fit) cC a N Q W R);have f:=Cq z cC a;have j:=cq (show qJ cC a (g.gt s)=if 281474976710651<g.b.next then(g.gt s,192) else qI (g.gt s) (jH g.b.t cC a) from ae);obtain⟨T,J⟩:=c8 (qJ cC a (g.gt s));obtain⟨r,O⟩:=c8 (jH g.b.t cC a);rw[J,O] at j;rw[J];rw[O] at E f;obtain⟨I,c⟩:=r;simp only at E f;have C4:=cq λ(k:dD)(B:fJ)(l:B=ct 2 (dk k))(hc:k.t=I)W(X:dF W G g D M s)R=>r5 G D M g s k B l aks W X R;have C5:=cq λ(m:dD)(hc:m.t=I)W(X:dF W G {g with b:=m} D M s)=>(show rF 57 #[.agg A] W (.int .i64 (zS (sC (g.gt s) I))) from by rw[<-hc];exact yH G D M {g with b:=m} s A u (show eQ m.t by rw[hc];exact f) W X (gO hl jR));have F:=cq v;have H:=cq y;clear h u z hl J O f v y;go_enter func96,ntmps96;by_cases n:281474976710651<g.b.next
 case pos=>rw[cL n] at j;have dm:decide (281474976710651<g.b.next)=true:=fQ n;clear n;go_wp2_with (first|refine je S (Y.o _ S.x.at) λW S=>?_|refine eR ?_|refine ey λW S=>?_);go_ret;rw[j.o];exact aO
 rw[cM n] at j;have dm:decide (281474976710651<g.b.next)=false:=iC n;clear n;go_upto_region 3 with(first|refine je S (Y.o _ S.x.at) λW S=>?_|refine eR ?_|refine ey λW S=>?_);refine dN S cX [⟨w.heap.size,118,1,λ_=>cZ G 0⟩] Be λW S=>?_;refine cJ 0 (cZ w.heap.size 0) ?_;refine cJ 1 (cZ G 0) ?_;refine fW 3 (.string cC) ae (fR (λw h=>cu.cell (cu.fr F.o h.fr au ax) (i:=0) cw) ae ET) ?_;refine fW 4 (.string a) ae (fR (λw h=>cu.cell (cu.fr H.o h.fr au ax) (i:=0) cw) ae ET) ?_;repeat' first|refine Rp ?_|refine mi 6 _ ?_|refine mi 7 (.agg V) ?_|refine mi 8 (.int .i64 c) ?_|refine mi 11 _ ?_|refine zX 2 9 (λK d=>?_) λK d=>?_|refine oJ 2 λK d=>?_|refine oJ 5 λK d=>?_|refine oJ 10 λK d=>?_|refine zX 5 9 (λK d=>?_) λK d=>?_|refine oJ 9 λK d=>?_|(refine fu S rl mZ ae λE9 W S=>?_;refine fC d ?_)|(go_wp2_with fail;refine ag (C2.o _ S.x.at) λB W⟨⟨t,l,hc,ho⟩,L⟩=>?_;have HB:=cq l;have HC:=cq hc;replace S:=S.jv L ho;clear l hc;refine fC d ?_)|(go_wp2_with fail;refine ag (E.o t B HB.o HC.o _ ⟨S.q0,λx U=>(S.x.2 x U).1⟩) λV W⟨⟨k,l,hc,ho⟩,L⟩=>?_;have o:=cq l;have p:=cq hc;replace S:=S.jv L ho;clear l hc;refine fC d ?_)|(refine ju S 0 ae ae ae o.o mP (eY _) λW S=>?_;refine fC d ?_)
 all_goals(
  refine cq ?_;unfold qI at j;simp only at j;by_cases C:c=0
  case neg=>
   have g3:(c !=0)=true:=eO.2 C;rw[cL C] at j;clear C;go_wp2;go_ret;rw[j.o];exact bC
  subst C;rw[cM aE] at j
  go_wp2_with first|(refine ag (C4.o k V o.o p.o _ S.x.1.1.at ⟨S.q0,λx U=>(S.x.2 x U).1⟩) λm W⟨hc,Z,ho,hf⟩=>?_;have q:=cq (hc.trans p.o);replace S:=(S.Dx (λB w h=>h.1.1) (gw G g D M s)).Wb Z ho hf aV;clear hc Z)|refine je S (C5.o m q.o _ S.x.at) λW S=>?_|refine eR ?_
  go_ret;rw[j.o];exact⟨{g with b:=m},s,ae,ae,S.x.at,by unfold gX.gt sC;rw[<-q.o],id,S.fr⟩)
def QU(G D M:Nat)(g:gX)(s:Pl)(q:eQ g.b.t)(cC:fh)(C:cC.size<=140737488355328)(m:Nat)(w:cB)(h:dF w G g D M s)(o:cu w m 9 1 (λ_=>.string cC)):
 CP_ 98 (#[.agg (ct 1 λ_=>.pointer (some ⟨G,0,none⟩))]++ #[.pointer (some ⟨m,0,none⟩)]) w λe w'=>yb w w' G D M g (lQ cC (g.gt s)) e:=by
 show CP_ 98 #[.agg (ct 1 λ_=>cZ G 0),cZ m 0] w _;obtain⟨A,N⟩:=xm (ct 1 (λ_=>cZ G 0));rw[<-N.o];have S:=St.start w (some D) [G,M,g.P] (gw G g D M s) h.x;have J:=cq λW(X:dF W G g D M s)=>kP G D M g s q.fit W X;have t:=cq λ(c:dD)(B:fJ)(d:B=ct 2 (dk c))(hc:c.t=g.b.t)W(R:gV W c)=>(show CP_ 99 #[.agg B,.string cC] W λe w'=>∃B,e=.returned (.tuple #[.agg B,.int .i64 (fI g.b.t cC).2])/\kT w' W.heap.size B (fI g.b.t cC).1/\dz W w' from by rw[<-hc];exact JK c B d (by rw[hc];exact q.fit) cC C W R);have f:=zQ q cC;have j:=cq (show lQ cC (g.gt s)=if(fI g.b.t cC).2≠0 then(g.gt s,(fI g.b.t cC).2) else(sC (g.gt s) (fI g.b.t cC).1,0) from ae);obtain⟨T,y⟩:=c8 (lQ cC (g.gt s));obtain⟨r,E⟩:=c8 (fI g.b.t cC);rw[y,E] at j;rw[y];rw[E] at t f;obtain⟨U,c⟩:=r;simp only at t f j;have L:=cq λ(n:dD)(B:fJ)(d:B=ct 2 (dk n))(hc:n.t=U)W(X:dF W G g D M s)R=>r5 G D M g s n B d aks W X R;have v:=cq o;clear h q y E f o;go_enter func98,ntmps98
 go_upto_region 1 with(refine ey λW S=>?_);refine dN S cX [⟨w.heap.size,118,1,λ_=>cZ G 0⟩] Be λW S=>?_;refine cJ 0 (cZ w.heap.size 0) ?_;refine cJ 1 (cZ G 0) ?_;refine fW 3 (.string cC) ae (fR (λw h=>cu.cell (cu.fr v.o h.fr au ax) (i:=0) cw) ae ET) ?_;repeat' first|refine Rp ?_|refine mi 5 _ ?_|refine mi 6 (.agg H) ?_|refine mi 7 (.int .i64 c) ?_|refine mi 10 _ ?_|refine zX 2 8 (λK a=>?_) λK a=>?_|refine oJ 2 λK a=>?_|refine oJ 4 λK a=>?_|refine oJ 9 λK a=>?_|refine zX 4 8 (λK a=>?_) λK a=>?_|refine oJ 8 λK a=>?_|(refine fu S rl mZ ae λZ W S=>?_;refine fC a ?_)|(go_wp2_with fail;refine ag (J.o _ S.x.at) λB W⟨⟨m,d,hc,ho⟩,z⟩=>?_;have O:=cq d;have Q:=cq hc;replace S:=S.jv z ho;clear d hc;refine fC a ?_)|(go_wp2_with fail;refine ag (t.o m B O.o Q.o _ ⟨S.q0,λx F=>(S.x.2 x F).1⟩) λH W⟨⟨n,d,hc,ho⟩,z⟩=>?_;have k:=cq d;have l:=cq hc;replace S:=S.jv z ho;clear d hc;refine fC a ?_)|(refine ju S 0 ae ae ae k.o mP (eY _) λW S=>?_;refine fC a ?_)
 all_goals(
  refine cq ?_;by_cases p:c=0
  case neg=>
   have I:(c !=0)=true:=eO.2 p;rw[cL p] at j;clear p;go_wp2;go_ret;rw[j.o];exact bC
  subst p;rw[cM aE] at j
  go_wp2_with first|(go_at_call 55;refine ag (L.o n H k.o l.o _ S.x.1.1.at ⟨S.q0,λx F=>(S.x.2 x F).1⟩) λV W⟨hc,I,ho,Y⟩=>?_;have u:=cq (hc.trans l.o);replace S:=(S.Dx (λB w h=>h.1.1) (gw G g D M s)).Wb I ho Y aV;clear hc I)|refine eR ?_
  go_ret;rw[j.o];exact⟨{g with b:=V},s,ae,ae,S.x.at,by unfold gX.gt sC;rw[<-u.o],id,S.fr⟩)
def ej.next{P D M:Nat}(h:ej w P D M s)(d:k7 w' P D M (iA s.cA) s.base)(b:iU P w w'):ej w' P D M (sZ s)/\Fr none [P] w w':=by have a:Fr none [P] w w':=Fr.qt b (cu.ty h.row) ae (eV.2 ae);exact⟨⟨d,h.dev.fr a,h.map.fr a (λc=>qh (cu.ty h.map) (cu.ty h.row) jR (eV.1 c)),⟨BP _,h.ok.2⟩⟩,a⟩
def Z9(G D M:Nat)(g:gX)(s:Pl)(E:eQ g.b.t)(hl:g.dx.length<=100000)(cC:fh)(Y:cC.size<=140737488355328)(u:Nat)(w:cB)(h:dF w G g D M s)(C:cu w u 9 1 (λ_=>.string cC)):
 CP_ 51 (#[.agg (ct 1 λ_=>.pointer (some ⟨G,0,none⟩))]++ #[.pointer (some ⟨u,0,none⟩)]) w λe w'=>yb w w' G D M g (vB cC (g.gt s)) e:=by
 show CP_ 51 #[.agg (ct 1 λ_=>cZ G 0),cZ u 0] w _;obtain⟨A,y⟩:=eW (ct 1 (λ_=>cZ G 0));rw[<-y];have HA:=cq y;have S:=St.start w (some D) [G,M,g.P] (gw G g D M s) h.x;have O:=cq (pC.NF h.x);have N:=cq λW s(X:dF W G g D M s)=>nT G D M g s W X;have CQ:=cq λj W(X:dF W G {g with b:=j} D M s)=>nT G D M {g with b:=j} s W X;have CN:=cq λW(X:k7 W g.P D M s.cA s.base)=>PT g.P D M s.cA s.base W X;have F:=cq λW(X:dF W G g D M s)=>uT g.P D M s.cA s.base W X.kq.row;have J:=cq λW(X:dF W G g D M s)=>y7 G D M g s A y E.fit W X;have C2:=cq λW(X:dF W G g D M s)=>kP G D M g s E.fit W X;obtain⟨st,o⟩:=c8 s.cA;have L:=cq λ(c:dD)(B:fJ)(l:B=ct 2 (dk c))(hc:c.t=g.b.t)W(R:gV W c)=>(show CP_ 54 #[.agg B,.string cC,.int .u64 st] W λe w'=>∃B,e=.returned (.tuple #[.agg B,.int .i64 (iD g.b.t cC st).2])/\kT w' W.heap.size B (iD g.b.t cC st).1/\dz W w' from by rw[<-hc];exact Qg c B l (by rw[hc];exact E.fit) cC Y st W R);have f:=D4 E cC st;have a:=cq (show vB cC (g.gt s)=if 281474976710651<g.b.next∨281474976710651<st then(g.gt s,192) else if(iD g.b.t cC st).2≠0 then(g.gt s,(iD g.b.t cC st).2) else({sC (g.gt s) (iD g.b.t cC st).1 with s:=sZ s},zS {sC (g.gt s) (iD g.b.t cC st).1 with s:=sZ s}) from by rw[<-o];rfl);obtain⟨T,V⟩:=c8 (vB cC (g.gt s));obtain⟨r,Z⟩:=c8 (iD g.b.t cC st);rw[V,Z] at a;rw[V];rw[Z] at L f;rw[o] at F;obtain⟨U,c⟩:=r;simp only at L f a;have C4:=cq λ(v:dD)(B:fJ)(l:B=ct 2 (dk v))(hc:v.t=U)W(X:dF W G g D M s)R=>r5 G D M g s v B l aks W X R;have C5:=cq λ(j:dD)(hc:j.t=U)W(X:dF W G {g with b:=j} D M (sZ s))=>(show rF 57 #[.agg A] W (.int .i64 (zS {sC (g.gt s) U with s:=sZ s})) from by rw[<-hc];exact yH G D M {g with b:=j} (sZ s) A y (show eQ j.t by rw[hc];exact f) W X (gO hl jR));have Q:=cq C;clear h y E hl V Z f C o;go_enter func51,ntmps51;by_cases m:281474976710651<g.b.next
 case pos=>rw[cL (.inl m)] at a;have dm:decide (281474976710651<g.b.next)=true:=fQ m;clear m;go_wp2_with (first|refine lB (N.o _ _ S.x.at) ?_|refine lB (F.o _ S.x.at) ?_|refine je S (J.o _ S.x.at) λW S=>?_|refine eR ?_|refine ey λW S=>?_);go_ret;rw[a.o];exact aO
 have dm:decide (281474976710651<g.b.next)=false:=iC m;by_cases I:281474976710651<st;case pos=>rw[cL (.inr I)] at a;have ds:decide ((281474976710651:Int)<(st:Int))=true:=fQ cw;clear m I;go_wp2_with (first|refine lB (N.o _ _ S.x.at) ?_|refine lB (F.o _ S.x.at) ?_|refine je S (J.o _ S.x.at) λW S=>?_|refine eR ?_|refine ey λW S=>?_);go_ret;rw[a.o];exact aO
 rw[cM (λh=>h.elim m I)] at a;have ds:decide ((281474976710651:Int)<(st:Int))=false:=iC cw;clear m I;go_upto_region 4 with(first|refine lB (N.o _ _ S.x.at) ?_|refine lB (F.o _ S.x.at) ?_|refine je S (J.o _ S.x.at) λW S=>?_|refine eR ?_|refine ey λW S=>?_);refine dN S cX [⟨w.heap.size,118,1,λ_=>cZ G 0⟩] Be λW S=>?_;refine cJ 0 (cZ w.heap.size 0) ?_;refine cJ 1 (cZ G 0) ?_;refine fW 3 (.string cC) ae (fR (λw h=>cu.cell (cu.fr Q.o h.fr au ax) (i:=0) cw) ae ET) ?_;refine cJ 4 _ ?_;repeat' first|refine Rp ?_|refine mi 6 _ ?_|refine mi 7 (.agg B2) ?_|refine mi 8 (.int .i64 c) ?_|refine mi 11 _ ?_|refine zX 2 9 (λK d=>?_) λK d=>?_|refine oJ 2 λK d=>?_|refine oJ 5 λK d=>?_|refine oJ 10 λK d=>?_|refine zX 5 9 (λK d=>?_) λK d=>?_|refine oJ 9 λK d=>?_|(refine fu S rl mZ ae λE9 W S=>?_;refine fC d ?_)|(go_wp2_with fail;refine ag (C2.o _ S.x.at) λB W⟨⟨u,l,hc,ho⟩,z⟩=>?_;have HB:=cq l;have HC:=cq hc;replace S:=S.jv z ho;clear l hc;refine fC d ?_)|(go_wp2_with fail;refine ag (L.o u B HB.o HC.o _ ⟨S.q0,λx hx=>(S.x.2 x hx).1⟩) λB2 W⟨⟨v,l,hc,ho⟩,z⟩=>?_;have p:=cq l;have q:=cq hc;replace S:=S.jv z ho;clear l hc;refine fC d ?_)|(refine ju S 0 ae ae ae p.o mP (eY _) λW S=>?_;refine fC d ?_)
 all_goals(
  refine cq ?_;by_cases H:c=0
  case neg=>
   have g3:(c !=0)=true:=eO.2 H;rw[cL H] at a;clear H;go_wp2;go_ret;rw[a.o];exact bC
  subst H;rw[cM aE] at a
  go_upto_region 8 with(first|(refine ag (C4.o v B2 p.o q.o _ S.x.1.1.at ⟨S.q0,λx hx=>(S.x.2 x hx).1⟩) λj W⟨hc,hg,ho,hf⟩=>?_;have t:=cq (hc.trans q.o);replace S:=(S.Dx (λB w h=>h.1.1) (gw G g D M s)).Wb hg ho hf aV;clear hc hg)|refine eR ?_)
  go_wp2_with first|refine lB (CQ.o _ _ S.x.at) ?_|(refine ah (CN.o _ S.x.at.kq.row) λW⟨hp,z⟩=>?_;have n:=ej.next S.x.at.kq hp z;replace S:=S.af1 n.2 (λD e=>by cases e) (λk hk=>.inl (by rw[eV.1 hk];simp)) (by rw[eV];exact O.o.1) n.1;clear n)|refine je S (C5.o j t.o _ S.x.at) λW S=>?_|refine eR ?_
  go_ret;rw[a.o];exact⟨{g with b:=j},sZ s,ae,ae,S.x.at,by unfold gX.gt sC;rw[<-t.o],id,S.fr⟩)
def QV(G D M:Nat)(g:gX)(s:Pl)(ht:eQ g.b.t)(cC:fh)(V:cC.size<=140737488355328)(t:Nat)(w:cB)(h:dF w G g D M s)(H:cu w t 9 1 (λ_=>.string cC)):
 CP_ 62 (#[.agg (ct 1 λ_=>.pointer (some ⟨G,0,none⟩))]++ #[.pointer (some ⟨t,0,none⟩)]) w λe w'=>yb w w' G D M g (dQ cC (g.gt s)) e:=by
 show CP_ 62 #[.agg (ct 1 λ_=>cZ G 0),cZ t 0] w _;obtain⟨A,hA⟩:=eW (ct 1 (λ_=>cZ G 0));rw[<-hA];have F:=cq hA;have S:=St.start w (some D) [G,M,g.P] (gw G g D M s) h.x;have a7:=cq (pC.NF h.x);have C0:=cq λW=>rM cC V W;have C2:=cq λW(X:dF W G g D M s)=>kP G D M g s ht.fit W X;have d:=cq (show dQ cC (g.gt s)=(dG cC).elim (g.gt s,141) λp=>if p.2=qz then pD (g.gt s) (eX g.b.t cC) else vY (g.gt s) (ez g.b.t cC) from ae);obtain⟨T,I⟩:=c8 (dQ cC (g.gt s));obtain⟨ns,F⟩:=c8 (dG cC);rw[I,F] at d;rw[I];rw[F] at C0;have C:=cq H;clear h I F H;cases ns with
 |none=>rw[show fp 141 (none:Option (fh×fh))=141 from ae] at C0;simp only[Option.elim_none] at d;clear hA;go_enter func62,ntmps62;go_wp2_with (first|refine yi (cu.cell (cu.fr C.o S.fr au ax) (i:=0) cw) ?_|refine je S (C0.o _) λW S=>?_|refine ey λW S=>?_);go_ret;rw[d.o];exact aO
 |some p=>
  obtain⟨F,sn⟩:=p;simp only[ku] at C0;rw[show fp 141 (some (F,sn))=0 from ae] at C0;simp only[Aa] at d;by_cases Q:sn=qz
  . have g1:sn.toList.isEmpty=true:=by rw[Q,BZ];rfl
    rw[cL Q] at d;have F:=cq λ(c:dD)(B:fJ)(f:B=ct 2 (dk c))(hc:c.t=g.b.t)W(R:gV W c)=>(show CP_ 64 #[.agg B,.string cC] W λe w'=>∃B D,e=.returned (.tuple #[.agg B,.agg D,.int .i64 (eX g.b.t cC).2.2])/\kT w' W.heap.size B (eX g.b.t cC).1/\xY w' W.heap.size D (eX g.b.t cC).2.1/\dz W w' from by rw[<-hc];exact JJ c B f (by rw[hc];exact ht.fit) cC V W R);obtain⟨n,H⟩:=zR ht cC;obtain⟨r,u⟩:=c8 (eX g.b.t cC);rw[u] at F n H d;obtain⟨b2,Y,c⟩:=r;simp only at F n H;unfold pD at d;simp only at d;have C4:=cq λ(l:dD)(B:fJ)(f:B=ct 2 (dk l))(hc:l.t=b2)(y:dg)(U:fJ)(J:U=ct 11 (gq y))(I:y.tocR=Y)W X R=>Ea G D M g s ht l B f (by rw[hc];exact n.fit) y U J (by have Q:=H.2.2.1;rw[<-I] at Q;exact Q) A hA W X R;clear hA ht u n H Q;go_enter func62,ntmps62
    go_upto_region 5 with(first|refine yi (cu.cell (cu.fr C.o S.fr au ax) (i:=0) cw) ?_|refine je S (C0.o _) λW S=>?_|refine ey λW S=>?_)
    refine dN S cX [⟨w.heap.size,118,1,λ_=>cZ G 0⟩] Be λW S=>?_;refine cJ 0 (cZ w.heap.size 0) ?_;refine cJ 1 (cZ G 0) ?_;refine fW 3 (.string cC) ae (fR (λw h=>cu.cell (cu.fr C.o h.fr au ax) (i:=0) cw) ae ET) ?_
    all_goals(first|refine rd3 (i:=2) (j:=9) (k:=10) dk_ ae ae ae cX cX cX (λK a=>?_) (λK a=>?_) (λK a=>?_))
    all_goals(first|(go_wp2_with fail;refine zI S (C2.o _ S.x.at) λW B t J L _ S=>?_;refine fC a ?_)|(refine fu S rl mZ ae λE4 W S=>?_;refine fC a ?_)|(refine fu S wx oB ae λZ W S=>?_;refine fC a ?_))
    all_goals(clear a K)
    all_goals(first|(refine rd3 (i:=4) (j:=9) (k:=10) dk_ ae ae ae cX cX cX (λK a=>?_) (λK a=>?_) (λK a=>?_))|(refine zX 2 10 (λK a=>?_) λK a=>?_)|refine zX 2 9 (λK a=>?_) λK a=>?_)
    all_goals(first|(go_wp2_with fail;refine(F.o t B J.o L.o _ ⟨S.q0,λx E=>(S.x.2 x E).1⟩).mono ?_;rintro e W ⟨v,Y,rfl,⟨l,f,hc,ho⟩,⟨y2,H,I,-⟩,U⟩;have m:=cq f;have o:=cq hc;have z:=cq H;have N:=cq I;replace S:=S.jv U ho;clear f hc H I;refine fC a ?_)|(refine fu S rl mZ ae λE4 W S=>?_;refine fC a ?_)|(refine fu S wx oB ae λZ W S=>?_;refine fC a ?_)|(go_wp2_with fail;refine zI S (C2.o _ S.x.at) λW B t J L _ S=>?_;refine fC a ?_))
    all_goals(clear a K)
    all_goals(try(refine mi 5 _ ?_))
    all_goals(try(refine mi 6 (.agg v) ?_))
    all_goals(try(refine mi 7 (.agg Y) ?_))
    all_goals(try(refine mi 8 (.int .i64 c) ?_))
    all_goals(first|(refine zX 9 10 (λK a=>?_) λK a=>?_)|(refine zX 4 10 (λK a=>?_) λK a=>?_)|(refine zX 4 9 (λK a=>?_) λK a=>?_)|refine oJ 2 λK a=>?_)
    all_goals(first|(refine fu S rl mZ ae λE4 W S=>?_;refine fC a ?_)|(refine fu S wx oB ae λZ W S=>?_;refine fC a ?_)|(go_wp2_with fail;refine(F.o t B J.o L.o _ ⟨S.q0,λx E=>(S.x.2 x E).1⟩).mono ?_;rintro e W ⟨v,Y,rfl,⟨l,f,hc,ho⟩,⟨y2,H,I,-⟩,U⟩;have m:=cq f;have o:=cq hc;have z:=cq H;have N:=cq I;replace S:=S.jv U ho;clear f hc H I;refine fC a ?_)|(go_wp2_with fail;refine zI S (C2.o _ S.x.at) λW B t J L _ S=>?_;refine fC a ?_))
    all_goals(clear a K)
    all_goals(try(refine mi 5 _ ?_))
    all_goals(try(refine mi 6 (.agg v) ?_))
    all_goals(try(refine mi 7 (.agg Y) ?_))
    all_goals(try(refine mi 8 (.int .i64 c) ?_))
    all_goals(first|(refine oJ 10 λK a=>?_)|(refine oJ 9 λK a=>?_)|refine oJ 4 λK a=>?_)
    all_goals(first|(refine fu S wx oB ae λZ W S=>?_;refine fC a ?_)|(refine fu S rl mZ ae λE4 W S=>?_;refine fC a ?_)|(go_wp2_with fail;refine(F.o t B J.o L.o _ ⟨S.q0,λx E=>(S.x.2 x E).1⟩).mono ?_;rintro e W ⟨v,Y,rfl,⟨l,f,hc,ho⟩,⟨y2,H,I,-⟩,U⟩;have m:=cq f;have o:=cq hc;have z:=cq H;have N:=cq I;replace S:=S.jv U ho;clear f hc H I;refine fC a ?_))
    all_goals(clear a K)
    all_goals(try(refine mi 5 _ ?_))
    all_goals(try(refine mi 6 (.agg v) ?_))
    all_goals(try(refine mi 7 (.agg Y) ?_))
    all_goals(try(refine mi 8 (.int .i64 c) ?_))
    all_goals(first|refine oJ 11 λK a=>?_)
    all_goals(first|((first|(refine ju S 0 ae ae ae m.o mP (eY _) λW S=>?_)|refine ju S 1 rfl rfl rfl m.o mP (eY _) λW S=>?_);refine fC a ?_))
    all_goals(clear a K)
    all_goals(first|refine oJ 12 λK a=>?_)
    all_goals(first|((first|(refine ju S 0 ae ae ae z.o tf (lM _) λW S=>?_)|refine ju S 1 rfl rfl rfl z.o tf (lM _) λW S=>?_);refine fC a ?_))
    all_goals(clear a K)
    all_goals(refine cJ 13 _ ?_)
    all_goals(refine pz ?_)
    all_goals(
     first|(replace S:St w (some D) [G,M,g.P] [⟨Z,109,11,gq y2⟩,⟨E4,99,2,dk l⟩,⟨w.heap.size,118,1,λ_=>cZ G 0⟩] _ _ _:=S)|(replace S:St w (some D) [G,M,g.P] [⟨Z,109,11,gq y2⟩,⟨E4,99,2,dk l⟩,⟨w.heap.size,118,1,λ_=>cZ G 0⟩] _ _ _:=S.acs)
     by_cases O:c=0
     case neg=>
      have g3:(c !=0)=true:=eO.2 O;rw[cL O] at d;clear O;go_wp2;go_ret;rw[d.o];exact bC
     subst O;rw[cM aE,<-o.o,<-N.o] at d
     go_wp2_with first|(refine(C4.o l v m.o o.o y2 Y z.o N.o _ S.x.1.1.at ⟨S.q0,λx E=>(S.x.2 x E).1⟩).mono ?_;rintro e W a;have Y:=cq a;clear a;obtain⟨g3,s3,rfl,hP,H,q,Z,I⟩:=Y.o;clear Y;have hF:=S.fr.step I ar (λk hk=>.inl hk);have Y:=cq (And.intro hP (And.intro H (And.intro q Z)));clear hP H q Z;rw[<-d.o])|refine eR ?_
     go_ret;obtain⟨hP,H,q,Z⟩:=Y.o;rw[<-d.o] at q;exact⟨g3,s3,ae,hP,H,q,Z,hF⟩)
  . have g1:sn.toList.isEmpty=false:=zE Q;rw[cM Q] at d;have F:=cq λ(c:dD)(B:fJ)(f:B=ct 2 (dk c))(hc:c.t=g.b.t)W(R:gV W c)=>(show CP_ 66 #[.agg B,.string cC] W λe w'=>∃B r,e=.returned (.tuple #[.agg B,r,.int .i64 (ez g.b.t cC).2.2])/\kT w' W.heap.size B (ez g.b.t cC).1/\gg w' W.heap.size r (ez g.b.t cC).2.1/\dz W w' from by rw[<-hc];exact Hu c B f (by rw[hc];exact ht.fit) cC V W R);obtain⟨n,Y,V⟩:=yL ht cC;obtain⟨r,u⟩:=c8 (ez g.b.t cC);rw[u] at F n Y V d;obtain⟨b2,jk,c⟩:=r;simp only at F n Y V;unfold vY at d;simp only at d;have Z:=cq λr W X(R:ko W r jk)=>A6 G D M g s jk Y V r A hA W X R;have C6:=cq λ(l:dD)(B:fJ)(f:B=ct 2 (dk l))(hc:l.t=b2)W(X:dF W G g D M (dI s jk))R=>r5 G D M g (dI s jk) l B f (by rw[hc];exact n.fit) W X R;clear hA ht u n Y V Q;go_enter func62,ntmps62
    go_upto_region 9 with(first|refine yi (cu.cell (cu.fr C.o S.fr au ax) (i:=0) cw) ?_|refine je S (C0.o _) λW S=>?_|refine ey λW S=>?_)
    refine dN S cX [⟨w.heap.size,118,1,λ_=>cZ G 0⟩] Be λW S=>?_;refine cJ 0 (cZ w.heap.size 0) ?_;refine cJ 1 (cZ G 0) ?_;refine fW 3 (.string cC) ae (fR (λw h=>cu.cell (cu.fr C.o h.fr au ax) (i:=0) cw) ae ET) ?_
    all_goals(first|refine zX 2 9 (λK a=>?_) λK a=>?_)
    all_goals(first|(go_wp2_with fail;refine zI S (C2.o _ S.x.at) λW B t J L _ S=>?_;refine fC a ?_)|(refine fu S rl mZ ae λE4 W S=>?_;refine fC a ?_))
    all_goals(clear a K)
    all_goals(first|(refine zX 4 9 (λK a=>?_) λK a=>?_)|refine oJ 2 λK a=>?_)
    all_goals(first|(go_wp2_with fail;refine(F.o t B J.o L.o _ ⟨S.q0,λx E=>(S.x.2 x E).1⟩).mono ?_;rintro e W ⟨v,r,rfl,⟨l,f,hc,ho⟩,u,U⟩;have m:=cq f;have o:=cq hc;have R:=cq (cS u);replace S:=S.L5 U ho u;clear f hc u;obtain⟨V,Y,rfl⟩:=R.o;clear R;refine fC a ?_)|(refine fu S rl mZ ae λE4 W S=>?_;refine fC a ?_)|(go_wp2_with fail;refine zI S (C2.o _ S.x.at) λW B t J L _ S=>?_;refine fC a ?_))
    all_goals(clear a K)
    all_goals(try(refine mi 5 _ ?_))
    all_goals(try(refine mi 6 (.agg v) ?_))
    all_goals(try(refine mi 7 (.slice V jk.length Y) ?_))
    all_goals(try(refine mi 8 (.int .i64 c) ?_))
    all_goals(first|(refine oJ 9 λK a=>?_)|refine oJ 4 λK a=>?_)
    all_goals(first|(refine fu S rl mZ ae λE4 W S=>?_;refine fC a ?_)|(go_wp2_with fail;refine(F.o t B J.o L.o _ ⟨S.q0,λx E=>(S.x.2 x E).1⟩).mono ?_;rintro e W ⟨v,r,rfl,⟨l,f,hc,ho⟩,u,U⟩;have m:=cq f;have o:=cq hc;have R:=cq (cS u);replace S:=S.L5 U ho u;clear f hc u;obtain⟨V,Y,rfl⟩:=R.o;clear R;refine fC a ?_))
    all_goals(clear a K)
    all_goals(try(refine mi 5 _ ?_))
    all_goals(try(refine mi 6 (.agg v) ?_))
    all_goals(try(refine mi 7 (.slice V jk.length Y) ?_))
    all_goals(try(refine mi 8 (.int .i64 c) ?_))
    all_goals(first|refine oJ 10 λK a=>?_)
    all_goals(first|(refine ju S 0 ae ae ae m.o mP (eY _) λW S=>?_;refine fC a ?_))
    all_goals(clear a K)
    all_goals(refine cJ 11 _ ?_)
    all_goals(refine cJ 12 _ ?_)
    all_goals(refine pz ?_)
    all_goals(
     by_cases F:c=131
     case pos=>
      subst F;rw[cL ae] at d
      go_wp2_with (refine(qY 131 _).mono ?_;rintro e W ⟨rfl,rfl⟩;)
      go_ret;rw[d.o];exact⟨g,s,ae,ae,S.x.1.1.1.at,ae,id,S.fr⟩
     have J:(c==131)=false:=lx.2 F;have J:decide (c=131)=false:=iC F;rw[cM F] at d;clear F;by_cases O:c=0
     case neg=>
      have g3:(c !=0)=true:=eO.2 O;rw[cL O] at d;clear O;go_wp2;go_ret;rw[d.o];exact⟨g,s,ae,ae,S.x.1.1.1.at,ae,id,S.fr⟩
     subst O;rw[cM aE] at d
     go_wp2_with first|(refine ah (Z.o _ _ S.x.1.1.1.at S.x.2.1) λW⟨H,I⟩=>?_;replace S:=S.call (X':=λB w=>pC G g D M (dI s jk) B w/\qA l.sv l.l B w) I ar (λk hk=>.inl (by rw[eV.1 hk];simp)) ((gw G g D M _).still (eT l.sv l.l)) (λB h=>⟨h.1.1.1.pl I (by rw[eV];exact a7.o.2.1) H.kq,(eT _ _).fr h.1.2 I⟩);clear H)|(refine ag (C6.o l v m.o o.o _ S.x.1.at S.x.2.sl) λJ W⟨hc,H,ho,I⟩=>?_;have F:=cq (hc.trans o.o);replace S:=(S.Dx (λB w h=>h.1) (gw G g D M _)).Wb H ho I aV;clear hc H)|refine eR ?_
     go_ret;rw[d.o];exact⟨{g with b:=J},dI s jk,ae,ae,S.x.at,by unfold gX.gt;rw[<-F.o],id,S.fr⟩)
def JN(w w':cB)(K D:Nat)(r:GT×Int)(e:Ending):Prop:=e=.returned (.int .i64 r.2)/\eK w' K D r.1/\Fr (some D) [K] w w'
def Ct(K D:Nat)(x:GT)(m:E0 x)(cC:fh)(p:cC.size<=140737488355328)(n:Int)(w:cB)(h:eK w K D x):
 CP_ 33 #[.pointer (some ⟨K,0,none⟩),.string cC,.int .i64 n] w λe w'=>JN w w' K D (dB x (mH cC n)) e:=by
 obtain⟨G,g,M,L,l,c⟩:=h;have A:=cq m;have q:=cq (And.intro l c);have S:=St.start w (some D) [K] (jy K G g D M x.s) L.x;have s:∀args w,(callFunc 76 args).run prog w=.ok (.enter 76 args) w:=enters_of func76 cX ae;have v:=cq s;have y:=cq λi j b(a:b.gt x.s=x)(C E:Nat)W(X:dF W i b D j x.s)h0 d=>(show CP_ 76 _ W λe w'=>yb W w' i D j b (mH cC n x) e from by
  have N:eQ b.b.t:=by have d:=m.text;rw[<-a] at d;exact d
  have J:b.dx.length<=100000:=by have d:=m.pK;rw[<-a] at d;exact d
  have t:=TX i D j b x.s N J cC p n C E W X h0 d;rw[a] at t;exact t)
 obtain⟨T,r⟩:=q8 (dB x (mH cC n));rw[r.o];clear l c m s;go_enter func33,ntmps33;go_wp2_with (first|(refine ah (nW K D x A.o (mH cC n) 76 _ v.o _ ⟨G,g,M,S.x.at,q.o.1,q.o.2⟩ (λi j b B u H a=>y.o i j b a _ _ B H (cu.fr S.k1 u au ax) (cu.fr S.k0 u au ax))) λO⟨f,o⟩=>?_;have F:=S.fr.step o ar (λk I=>.inl I);rw[r.o] at f|-;have z:=cq f;clear f)|refine ey λW S=>?_);go_ret;exact⟨ae,z.o,F⟩
def NL(K D:Nat)(x:GT)(n:E0 x)(cC b:fh)(p:cC.size<=140737488355328)(q:b.size<=140737488355328)(w:cB)(h:eK w K D x):
 CP_ 40 #[.pointer (some ⟨K,0,none⟩),.string cC,.string b] w λe w'=>JN w w' K D (dB x (qJ cC b)) e:=by
 obtain⟨G,g,M,N,m,d⟩:=h;have B:=cq n;have r:=cq (And.intro m d);have S:=St.start w (some D) [K] (jy K G g D M x.s) N.x;have t:∀args w,(callFunc 96 args).run prog w=.ok (.enter 96 args) w:=enters_of func96 cX ae;have y:=cq t;have z:=cq λj l c(a:c.gt x.s=x)(E F:Nat)W(X:dF W j c D l x.s)h0 f=>(show CP_ 96 _ W λe w'=>yb W w' j D l c (qJ cC b x) e from by
  have O:eQ c.b.t:=by have f:=n.text;rw[<-a] at f;exact f
  have L:c.dx.length<=100000:=by have f:=n.pK;rw[<-a] at f;exact f
  have u:=Wi j D l c x.s O L cC b p q E F W X h0 f;rw[a] at u;exact u)
 obtain⟨T,s⟩:=q8 (dB x (qJ cC b));rw[s.o];clear m d n t;go_enter func40,ntmps40;go_wp2_with (first|(refine ah (nW K D x B.o (qJ cC b) 96 _ y.o _ ⟨G,g,M,S.x.at,r.o.1,r.o.2⟩ (λj l c C v I a=>z.o j l c a _ _ C I (cu.fr S.k1 v au ax) (cu.fr S.k0 v au ax))) λQ⟨i,o⟩=>?_;have H:=S.fr.step o ar (λk J=>.inl J);rw[s.o] at i|-;have A:=cq i;clear i)|refine ey λW S=>?_);go_ret;exact⟨ae,A.o,H⟩
def QW(K D:Nat)(x:GT)(m:E0 x)(cC:fh)(o:cC.size<=140737488355328)(w:cB)(h:eK w K D x):
 CP_ 14 #[.pointer (some ⟨K,0,none⟩),.string cC] w λe w'=>JN w w' K D (dB x (vB cC)) e:=by
 obtain⟨G,g,M,I,l,c⟩:=h;have y:=cq m;have p:=cq (And.intro l c);have S:=St.start w (some D) [K] (jy K G g D M x.s) I.x;have r:∀args w,(callFunc 51 args).run prog w=.ok (.enter 51 args) w:=enters_of func51 cX ae;have t:=cq r;have u:=cq λf i b(a:b.gt x.s=x)(A:Nat)W(X:dF W f b D i x.s)h0=>(show CP_ 51 _ W λe w'=>yb W w' f D i b (vB cC x) e from by
  have J:eQ b.b.t:=by have j:=m.text;rw[<-a] at j;exact j
  have H:b.dx.length<=100000:=by have j:=m.pK;rw[<-a] at j;exact j
  have s:=Z9 f D i b x.s J H cC o A W X h0;rw[a] at s;exact s)
 obtain⟨T,q⟩:=q8 (dB x (vB cC));rw[q.o];clear l c m r;go_enter func14,ntmps14;go_wp2_with (first|(refine ah (nW K D x y.o (vB cC) 51 _ t.o _ ⟨G,g,M,S.x.at,p.o.1,p.o.2⟩ (λf i b z C E a=>u.o f i b a _ z E (cu.fr S.k0 C au ax))) λL⟨d,n⟩=>?_;have B:=S.fr.step n ar (λk F=>.inl F);rw[q.o] at d|-;have v:=cq d;clear d)|refine ey λW S=>?_);go_ret;exact⟨ae,v.o,B⟩
def JO(K D:Nat)(x:GT)(m:E0 x)(cC:fh)(o:cC.size<=140737488355328)(w:cB)(h:eK w K D x):
 CP_ 41 #[.pointer (some ⟨K,0,none⟩),.string cC] w λe w'=>JN w w' K D (dB x (lQ cC)) e:=by
 obtain⟨G,g,M,H,l,c⟩:=h;have y:=cq m;have p:=cq (And.intro l c);have S:=St.start w (some D) [K] (jy K G g D M x.s) H.x;have r:∀args w,(callFunc 98 args).run prog w=.ok (.enter 98 args) w:=enters_of func98 cX ae;have t:=cq r;have u:=cq λf i b(a:b.gt x.s=x)(A:Nat)W(X:dF W f b D i x.s)h0=>(show CP_ 98 _ W λe w'=>yb W w' f D i b (lQ cC x) e from by
  have I:eQ b.b.t:=by have j:=m.text;rw[<-a] at j;exact j
  have L:b.dx.length<=100000:=by have j:=m.pK;rw[<-a] at j;exact j
  have s:=QU f D i b x.s I cC o A W X h0;rw[a] at s;exact s)
 obtain⟨T,q⟩:=q8 (dB x (lQ cC));rw[q.o];clear l c m r;go_enter func41,ntmps41;go_wp2_with (first|(refine ah (nW K D x y.o (lQ cC) 98 _ t.o _ ⟨G,g,M,S.x.at,p.o.1,p.o.2⟩ (λf i b z C E a=>u.o f i b a _ z E (cu.fr S.k0 C au ax))) λJ⟨d,n⟩=>?_;have B:=S.fr.step n ar (λk F=>.inl F);rw[q.o] at d|-;have v:=cq d;clear d)|refine ey λW S=>?_);go_ret;exact⟨ae,v.o,B⟩
def QX(K D:Nat)(x:GT)(m:E0 x)(cC:fh)(o:cC.size<=140737488355328)(w:cB)(h:eK w K D x):
 CP_ 42 #[.pointer (some ⟨K,0,none⟩),.string cC] w λe w'=>JN w w' K D (dB x (tE cC)) e:=by
 obtain⟨G,g,M,H,l,c⟩:=h;have y:=cq m;have p:=cq (And.intro l c);have S:=St.start w (some D) [K] (jy K G g D M x.s) H.x;have r:∀args w,(callFunc 100 args).run prog w=.ok (.enter 100 args) w:=enters_of func100 cX ae;have t:=cq r;have u:=cq λf i b(a:b.gt x.s=x)(A:Nat)W(X:dF W f b D i x.s)h0=>(show CP_ 100 _ W λe w'=>yb W w' f D i b (tE cC x) e from by
  have I:eQ b.b.t:=by have j:=m.text;rw[<-a] at j;exact j
  have L:b.dx.length<=100000:=by have j:=m.pK;rw[<-a] at j;exact j
  have s:=Z6 f D i b x.s I cC o A W X h0;rw[a] at s;exact s)
 obtain⟨T,q⟩:=q8 (dB x (tE cC));rw[q.o];clear l c m r;go_enter func42,ntmps42;go_wp2_with (first|(refine ah (nW K D x y.o (tE cC) 100 _ t.o _ ⟨G,g,M,S.x.at,p.o.1,p.o.2⟩ (λf i b z C E a=>u.o f i b a _ z E (cu.fr S.k0 C au ax))) λJ⟨d,n⟩=>?_;have B:=S.fr.step n ar (λk F=>.inl F);rw[q.o] at d|-;have v:=cq d;clear d)|refine ey λW S=>?_);go_ret;exact⟨ae,v.o,B⟩
def Bp(K D:Nat)(x:GT)(m:E0 x)(cC:fh)(o:cC.size<=140737488355328)(w:cB)(h:eK w K D x):
 CP_ 19 #[.pointer (some ⟨K,0,none⟩),.string cC] w λe w'=>JN w w' K D (dB x (dQ cC)) e:=by
 obtain⟨G,g,M,H,l,c⟩:=h;have y:=cq m;have p:=cq (And.intro l c);have S:=St.start w (some D) [K] (jy K G g D M x.s) H.x;have r:∀args w,(callFunc 62 args).run prog w=.ok (.enter 62 args) w:=enters_of func62 cX ae;have t:=cq r;have u:=cq λf i b(a:b.gt x.s=x)(A:Nat)W(X:dF W f b D i x.s)h0=>(show CP_ 62 _ W λe w'=>yb W w' f D i b (dQ cC x) e from by
  have I:eQ b.b.t:=by have j:=m.text;rw[<-a] at j;exact j
  have L:b.dx.length<=100000:=by have j:=m.pK;rw[<-a] at j;exact j
  have s:=QV f D i b x.s I cC o A W X h0;rw[a] at s;exact s)
 obtain⟨T,q⟩:=q8 (dB x (dQ cC));rw[q.o];clear l c m r;go_enter func19,ntmps19;go_wp2_with (first|(refine ah (nW K D x y.o (dQ cC) 62 _ t.o _ ⟨G,g,M,S.x.at,p.o.1,p.o.2⟩ (λf i b z C E a=>u.o f i b a _ z E (cu.fr S.k0 C au ax))) λJ⟨d,n⟩=>?_;have B:=S.fr.step n ar (λk F=>.inl F);rw[q.o] at d|-;have v:=cq d;clear d)|refine ey λW S=>?_);go_ret;exact⟨ae,v.o,B⟩
def Eb(K D:Nat)(x:GT)(n:E0 x)(cC:fh)(t:cC.size<=140737488355328)(i:Int)(bs:cD)(p:Option Addr)(q:Nat)(w:cB)(h:eK w K D x)(r:kZ w 5 (.slice p bs.length q) bs):
 CP_ 34 #[.pointer (some ⟨K,0,none⟩),.string cC,.int .i64 i,.slice p bs.length q] w λe w'=>JN w w' K D (dB x (nF cC i bs)) e:=by
 obtain⟨G,g,M,Q,m,c⟩:=h;have F:=cq n;have v:=cq (And.intro m c);have S:=St.start w (some D) [K] (jy K G g D M x.s) Q.x;have z:∀args w,(callFunc 78 args).run prog w=.ok (.enter 78 args) w:=enters_of func78 cX ae;have B:=cq z;have C:=cq λj l b(a:b.gt x.s=x)(I J d2:Nat)W(X:dF W j b D l x.s)hb h0 d h2=>(show CP_ 78 _ W λe w'=>yb W w' j D l b (nF cC i bs x) e from by
  have R:eQ b.b.t:=by have d:=n.text;rw[<-a] at d;exact d
  have O:b.dx.length<=100000:=by have d:=n.pK;rw[<-a] at d;exact d
  have A:=Wh j D l b x.s R O n.ops cC t i bs p q I J d2 W X hb h0 d h2;rw[a] at A;exact A)
 obtain⟨T,y⟩:=q8 (dB x (nF cC i bs));rw[y.o];clear m c n z;go_enter func34,ntmps34;go_wp2_with (first|(refine ah (nW K D x F.o (nF cC i bs) 78 _ B.o _ ⟨G,g,M,S.x.at,v.o.1,v.o.2⟩ (λj l b H o N a=>C.o j l b a _ _ _ H N (kZ.fr r (S.fr.step o ar (λk u=>.inl u)) au ae) (cu.fr S.k2 o au ax) (cu.fr S.k1 o au ax) (cu.fr S.k0 o au ax))) λU⟨f,s⟩=>?_;have L:=S.fr.step s ar (λk u=>.inl u);rw[y.o] at f|-;have E:=cq f;clear f)|refine ey λW S=>?_);go_ret;exact⟨ae,E.o,L⟩
def QY(K D:Nat)(x:GT)(n:E0 x)(cC:fh)(p:cC.size<=140737488355328)(i:Int)(w:cB)(h:eK w K D x):
 CP_ 39 #[.pointer (some ⟨K,0,none⟩),.string cC,.int .i64 i] w λe w'=>JN w w' K D (dB x (sD cC i)) e:=by
 obtain⟨G,g,M,L,m,c⟩:=h;have A:=cq n;have q:=cq (And.intro m c);have S:=St.start w (some D) [K] (jy K G g D M x.s) L.x;have s:∀args w,(callFunc 94 args).run prog w=.ok (.enter 94 args) w:=enters_of func94 cX ae;have v:=cq s;have y:=cq λj l b(a:b.gt x.s=x)(C E:Nat)W(X:dF W j b D l x.s)h0 d=>(show CP_ 94 _ W λe w'=>yb W w' j D l b (sD cC i x) e from by
  have N:eQ b.b.t:=by have d:=n.text;rw[<-a] at d;exact d
  have J:b.dx.length<=100000:=by have d:=n.pK;rw[<-a] at d;exact d
  have t:=Z7 j D l b x.s N J n.ops cC p i C E W X h0 d;rw[a] at t;exact t)
 obtain⟨T,r⟩:=q8 (dB x (sD cC i));rw[r.o];clear m c n s;go_enter func39,ntmps39;go_wp2_with (first|(refine ah (nW K D x A.o (sD cC i) 94 _ v.o _ ⟨G,g,M,S.x.at,q.o.1,q.o.2⟩ (λj l b B u H a=>y.o j l b a _ _ B H (cu.fr S.k1 u au ax) (cu.fr S.k0 u au ax))) λO⟨f,o⟩=>?_;have F:=S.fr.step o ar (λk I=>.inl I);rw[r.o] at f|-;have z:=cq f;clear f)|refine ey λW S=>?_);go_ret;exact⟨ae,z.o,F⟩
def QZ(w:cB)(base D:Nat)(x:GT)(c:Int)(v:cI):Prop:=
 (c=0->∃K,v=.pointer (some ⟨K,0,none⟩)/\base<=K/\eK w K D x)/\(c≠0->v=.pointer none/\iK w D x.s.dv)
def TY(D:Nat)(d:Dv)(ho:d.ops<=990000000)(w:cB)(a:iK w D d):
 CP_ 38 #[.pointer (some ⟨D,0,none⟩)] w λe w'=>∃v,e=.returned (.tuple #[v,.int .i64 (iN d).2])/\QZ w' w.heap.size D (iN d).1 (iN d).2 v/\Fr (some D) [] w w':=by
 have S:=St.start w (some D) [] (fG D d) a;have k:=cq λW(X:iK W D d)=>NJ D d ho W X;obtain⟨T,p⟩:=c8 (iN d);rw[p] at k|-;obtain⟨x,c⟩:=T;simp only at k|-;clear a p;go_enter func38,ntmps38;go_upto_region 2 with(refine ag (k.o _ S.x) λv W⟨q,z⟩=>?_;have m:=cq q;have l:=cq z;clear q);by_cases j:c=0;case neg=>have A:(c !=0)=true:=eO.2 j;have o:=cq j;clear j;go_wp2;go_ret2;exact akW
 subst j;obtain⟨G,g,M,rfl,s,y,u,f,i,b⟩:=m.o.1 ae;have n:=cq (And.intro i b);replace S:=S.LO l.o ar dU (gw G g D M x.s) f.x;clear s y u f i b m l;go_wp2_with (first|refine kC (cells:=ct 1 (λ_=>cZ G 0)) ae cX ?_|refine LU S rfl rfl rfl λK W t S=>?_);go_ret2;exact⟨_,ae,⟨λ_=>⟨K,ae,t,⟨G,g,M,⟨S.x.2,S.x.1.at⟩,n.o.1,by have r:g.dx=x.dx:=fK GT.dx n.o.1;rw[<-r];exact n.o.2⟩⟩,λh=>absurd ae h⟩,S.fr⟩
def Q0(D:Nat)(d:Dv)(w:cB)(a:iK w D d):
 CP_ 17 #[.pointer (some ⟨D,0,none⟩)] w λe w'=>∃v,e=.returned (.tuple #[v,.int .i64 (oP d).2])/\QZ w' w.heap.size D (oP d).1 (oP d).2 v/\Fr (some D) [] w w':=by
 have S:=St.start w (some D) [] (fG D d) a;have k:=cq λW(X:iK W D d)=>NK D d W X;obtain⟨T,p⟩:=c8 (oP d);rw[p] at k|-;obtain⟨x,c⟩:=T;simp only at k|-;clear a p;go_enter func17,ntmps17;go_upto_region 2 with(refine ag (k.o _ S.x) λv W⟨q,z⟩=>?_;have m:=cq q;have l:=cq z;clear q);by_cases j:c=0;case neg=>have A:(c !=0)=true:=eO.2 j;have o:=cq j;clear j;go_wp2;go_ret2;exact akW
 subst j;obtain⟨G,g,M,rfl,s,y,u,f,i,b⟩:=m.o.1 ae;have n:=cq (And.intro i b);replace S:=S.LO l.o ar dU (gw G g D M x.s) f.x;clear s y u f i b m l;go_wp2_with (first|refine kC (cells:=ct 1 (λ_=>cZ G 0)) ae cX ?_|refine LU S rfl rfl rfl λK W t S=>?_);go_ret2;exact⟨_,ae,⟨λ_=>⟨K,ae,t,⟨G,g,M,⟨S.x.2,S.x.1.at⟩,n.o.1,by have r:g.dx=x.dx:=fK GT.dx n.o.1;rw[<-r];exact n.o.2⟩⟩,λh=>absurd ae h⟩,S.fr⟩
theorem St.afd{n l:cB}{G D M b c:Nat}{g f i:gX}{h:Pl}(S:St w (some D) [K] [] [] (λB w=>ye K G g D M s B w/\pC b f D c s B w) n)(o:(w.heap.size<=b/\w.heap.size<=f.P/\w.heap.size<=c)/\K<w.heap.size/\G<w.heap.size/\g.P<w.heap.size/\M<w.heap.size)(m:dF l b i D c h)(j:Fr (some D) [b,c,f.P] n l):
 St w (some D) [K] [] [] (λB w=>ye K G g D M {s with dv:=h.dv} B w/\pC b i D c h B w) l:=by
 obtain⟨⟨x,y,z⟩,q,r,t,u⟩:=o;have a:∀k,k<w.heap.size->k∉ [b,c,f.P]:=λk p v=>by grind
 have d:=dF.beside S.x.1.1.at m j (a G r) (a M u) (a _ t);refine S.LO j ar (λk p=>?_) ((jy K G g D M _).and (gw b i D c h)) ⟨⟨d.x,cu.fr S.x.1.2 j au (.inr (a K q))⟩,m.x⟩;grind
def A7(K D:Nat)(x:GT)(z:E0 x)(w:cB)(h:eK w K D x):
 CP_ 15 #[.pointer (some ⟨K,0,none⟩)] w λe w'=>JN w w' K D (dB x iR) e:=by
 obtain⟨G,g,M,h,d,f⟩:=h;have b:=cq f;obtain⟨s,Y⟩:=c8 x.s;rw[Y] at h d;obtain rfl:=d;have S:=St.start w (some D) [K] (jy K G g D M s) h.x;have N:=cq λW(X:vX W K G g D M s)=>AS K G D M g s W X;have Z:=cq λW(X:dF W G g D M s)=>Je G D M g s z.text.fit (gO z.pK jR) W X;have R:=cq λk t(m:gX)W X(a:m.gt s=g.gt s)=>(show CP_ 59 #[cZ k 0] W λe F=>yb W F k D t m (iR (g.gt s)) e from by
  have F:m.b.t=g.b.t:=fK GT.b a;have U:m.dx=g.dx:=fK GT.dx a;rw[<-a];exact TH k D t m s (by rw[F];exact z.text) (by rw[U];exact f) (by rw[U];exact z.pK) z.ops W X)
 have l:=cq (show dB (g.gt s) iR=if s.dv.cO=true then(g.gt s,42) else uI (g.gt s) (iR (g.gt s)) from ae);obtain⟨T,Q⟩:=c8 (dB (g.gt s) iR);obtain⟨r,u⟩:=c8 (iR (g.gt s));obtain⟨F,q⟩:=c8 s.dv.cO;rw[Q,u,q] at l;rw[Q];rw[u] at R;rw[q] at N;have I:=cq h;clear h Y Q u q z f;go_enter func15,ntmps15;cases F with
 |true=>rw[cL ae] at l;go_wp2_with (refine lB (N.o _ S.x.at) ?_;);go_ret;rw[l.o];exact⟨ae,⟨G,g,M,S.x.at,ae,b.o⟩,S.fr⟩
 |false=>
  rw[cM jR] at l;obtain⟨y,c⟩:=r;go_upto_region 5 with(first|refine lB (N.o _ S.x.at) ?_|refine yi (v:=cZ G 0) (cu.cell S.x.2 (i:=0) cw) ?_|(refine(Z.o _ S.x.at.I8).mono ?_;rintro e W ⟨k,m,t,rfl,B,E,C,a,d,L⟩;have H:=cq (And.intro (And.intro B (And.intro E C)) (And.intro (cu.lt I.o.row) (And.intro (cu.lt I.o.I8.row) (And.intro (cu.lt I.o.I8.kq.row) (cu.lt I.o.I8.kq.map)))));have n:=cq d;replace S:=(S.cx L).Wg ((jy K G g D M s).and (gw k m D t s)) ⟨(S.cx L).x,a.x⟩;clear B E C a d)|(refine(R.o k t m _ S.x.2.at n.o).mono ?_;rintro e F F;have A:=cq F;obtain⟨I,U,rfl,J,a,o,F,R⟩:=A.o;clear A;have p:=cq o;have O:=cq F;have hS:=S.afd H.o a R;clear S J a o F;have S:=hS;clear hS));unfold uI at l;by_cases J:c=0;case neg=>(have F:(c !=0)=true:=eO.2 J;rw[cL J] at l;clear J;go_wp2;go_ret;rw[l.o];have F:U.dv=y.s.dv:=by rw[<-p.o];rfl);have H:=S.x.1.at;rw[F] at H;exact⟨ae,⟨G,g,M,H,ae,b.o⟩,S.fr⟩
  subst J;rw[cM aE] at l;obtain rfl:=p.o;clear p;go_wp2_with (have V:=S.x.1.2;have a:∀j,j<1->(λ_=>cZ k 0:Nat->cI) j=if j=0 then cZ k 0 else(λ_=>cZ G 0:Nat->cI) j:=λj F=>(cL (show j=0 from Nat.lt_one_iff.1 F)).symm;refine acM V 0 cw ae ae ae XJ (λ_=>cZ k 0) a ?_;clear V a;intro F L u;replace S:=S.XW L u;clear u);go_ret;rw[l.o];exact⟨ae,⟨k,I,t,S.x.at,ae,O.o (by rw[show m.dx=g.dx from fK GT.dx n.o];exact b.o)⟩,S.fr⟩
end
structure sE(x:GT)(N:Nat):Prop where
 text:eQ x.b
 pK:x.dx.length<=100000
 ops:x.s.dv.ops<=N
def sE.ok(h:sE x N)(a:N<=990000000):E0 x:=⟨h.text,h.pK,gO h.ops a⟩
theorem sE.le{x:GT}{N M:Nat}(h:sE x N)(a:N<=M):sE x M:=⟨h.text,h.pK,gO h.ops a⟩
theorem Dn{x:GT}{N:Nat}(h:sE x N){k:GT->GT×Int}(a:sE (k x).1 (N+20000)):sE (dB x k).1 (N+20000):=by unfold dB;split;exact bh;unfold uI;split;exact⟨h.text,h.pK,a.ops⟩;exact a
def TZ(h:sE x N){r:dS×Int}(a:eQ r.1):sE (qI x r).1 N:=by unfold qI;split;exact h;exact⟨a,h.pK,h.ops⟩
def OS(h:sE x N)(cC:fh)(n:Int):sE (mH cC n x).1 N:=by unfold mH;split;exact h;exact TZ h (Bm h.text _ _)
def acY(h:sE x N)(f t:fh):sE (qJ f t x).1 N:=by unfold qJ;split;exact h;exact TZ h (Cq h.text _ _)
def afe(h:sE x N)(f:fh):sE (vB f x).1 N:=by unfold vB;split;exact h;split;exact h;exact⟨D4 h.text _ _,h.pK,h.ops⟩
def Wj(h:sE x N)(f:fh):sE (lQ f x).1 N:=by unfold lQ;split;exact h;exact⟨zQ h.text _,h.pK,h.ops⟩
theorem acZ{x:GT}{N:Nat}(h:sE x N){b:dS}(a:eQ b)(iV:cR):sE (pV b iV x).1 (N+9):=by have c:=TG x.s iV.cz (eM x.b.cE iV.id);have d:=h.ops;unfold pV wL;split;exact bL;refine⟨a,h.pK,?_⟩;grind[oO]
theorem T0(h:sE x N){r:dS×(cR×Int)}(a:eQ r.1):sE (pD x r).1 (N+9):=by unfold pD;split;exact bh;grind[acZ]
theorem aff{x:GT}{N:Nat}(h:sE x N)(f:fh):sE (tE f x).1 (N+9):=T0 h (D5 h.text f).1
theorem L8{x:GT}{N:Nat}(h:sE x N)(f:fh):sE (dQ f x).1 (N+9):=by unfold dQ;cases dG f with|none=>exact bh|some p=>simp only[Aa];split;exact T0 h (zR h.text f).1;have a:=yL h.text f;unfold vY;split;exact bh;split;exact bh;refine⟨a.1,h.pK,?_⟩;show(dI x.s (ez x.b f).2.1).dv.ops<=_;rw[oO];exact gO h.ops (xe _ _)
theorem afg{x:GT}{N:Nat}(h:sE x N)(id:Nat){q:cy}(b:cY q){iV:List cy}(ho:eU iV):sE (tT id q iV x).1 N:=by have a:=D6 (Gs h.text id b) id iV ho;unfold tT AY;split;exact h;refine⟨a.1,h.pK,?_⟩;show(dI x.s _).dv.ops<=_;rw[oO];exact h.ops
theorem XX{x:GT}{N:Nat}(h:sE x N)(id:Nat){t:Pl×(cy×(List cy×Int))}(a:t.1.dv.ops<=N+5)(c:cY t.2.1)(ho:eU t.2.2.1):sE (vC id x t).1 (N+5):=by have b:sE {x with s:=t.1} (N+5):=⟨h.text,h.pK,a⟩;grind[vC,afg]
theorem T3(h:sE x N)(a:pH x.s.dv)(b:gU x.s.cA)(f:fh)(i:Int)(bs:cD):sE (nF f i bs x).1 (N+5):=by have c:=(J5 h.text f i).2.2.1;have e:=D9 a b c i bs;have ho:=TE x.s (pT x.b f i).1.cz i bs;have d:=h.ops;unfold nF;split;exact bh;split;exact bh;grind[XX]
theorem afh(h:sE x N)(a:pH x.s.dv)(b:gU x.s.cA)(f:fh)(i:Int):sE (sD f i x).1 (N+5):=by have c:=(J5 h.text f i).2.2.1;have e:=Cr a b c i;have ho:=QM x.s (pT x.b f i).1.cz i;have d:=h.ops;unfold sD;split;exact bh;grind[XX]
theorem L9{x:GT}{N:Nat}(h:sE x N):sE (mA x).1 (N+20000):=by have a:=Gm x.s x.b x.dx;have b:=LS (gi x.s x.b x.dx).1.dv (rQ x (gi x.s x.b x.dx));have c:=h.ops;unfold mA uH;split;exact bL;split;exact bL;exact⟨h.text,gO (D1 _ _ _) jR,by show(eS _ _).1.ops<=_;omega⟩
theorem T4{x:GT}{N:Nat}(h:sE x N):sE (iR x).1 (N+20000):=by have a:=h.le (xe N 20000);grind[iR,L9]
theorem Ma(d:Dv):sE (iN d).1 (d.ops+20000):=by have h:sE (fP d) d.ops:=⟨L7,fN _,dK _⟩;unfold iN;split;exact bh;exact L9 h
def Gw(d:Dv):sE (tG d) d.ops:=⟨AW,fN _,dK _⟩
theorem Wk(d:Dv)(h:mG d.nw):sE (oP d).1 (d.ops+20004):=by obtain⟨g,i,-⟩:=tB d h;unfold oP;split;exact(Gw d).le (xe _ _);unfold zT;have a:=(Gw (eZ d).1).le (show(eZ d).1.ops<=d.ops+20004 by omega);split;exact a;split;exact a;split;exact a;have b:=yd ⟨(eZ d).1,qR (eZ d).1.n,0,0⟩ iG ((eZ d).2.getD lz).gJ;generalize ji ⟨(eZ d).1,qR (eZ d).1.n,0,0⟩ ((eZ d).2.getD lz).gJ=r at b|-;obtain⟨c,e,f,-⟩:=b;simp only at f;unfold Dm;split;exact(Gw r.1.dv).le cw;split;exact(Gw r.1.dv).le cw;exact⟨c,gO e jR,by grind⟩
def ac0(h:sE x N)(f:fh)(i:Int):sE (uJ f i x).1 (N+3):=by have a:=h.le (xe N 3);have ho:=TB x.s (rN x.b f i).1.cz i;have b:=h.ops;unfold uJ;split;exact a;unfold Gu;split;exact a;unfold J6;split;exact bL;exact bL
def eK.facts{D:Nat}(h:eK w K D x):pH x.s.dv/\gU x.s.cA:=by obtain⟨G,g,M,a,-,-⟩:=h;exact⟨a.I8.kq.dev.1,a.I8.kq.ok.1⟩
def Dv.al(d:Dv):Prop:=d.cO=false/\d.left= -1
def Wr(A:Nat->Prop)(d e:Dv):Prop:=∃l o f k,(∀p∈l,A p.1)/\e=⟨d.n,d.st,rz d.nw l,d.ps++l,o,f,k⟩/\(d.al->k=false/\f= -1)
theorem Wr.refl{A:Nat->Prop}(d:Dv):Wr A d d:=⟨[],d.ops,d.left,d.cO,by simp,by simp[rz],id⟩
theorem Wr.trans{A:Nat->Prop}{d e f:Dv}(h:Wr A d e)(g:Wr A e f):Wr A d f:=by obtain⟨l,o,f,k,m,rfl,b⟩:=h;obtain⟨j,o',a,i,n,rfl,c⟩:=g;exact⟨l++j,o',a,i,by grind,by grind[rz],λh=>c (b h)⟩
theorem Wr.mono(h:Wr A d e)(g:∀a,A a->B a):Wr B d e:=by grind[Wr]
def Wr.n(h:Wr A d e):e.n=d.n:=by obtain⟨l,o,f,k,_,rfl,_⟩:=h;rfl
def Wr.al(h:Wr A d e)(g:d.al):e.al:=by obtain⟨l,o,f,k,_,rfl,h⟩:=h;exact h g
theorem Mb{a:Nat}:∀(l:List (Nat×cD))(f:Nat->cD),(∀p∈l,p.1≠a)->rz f l a=f a
 | [],_,_=>rfl
 |p::l,f,h=>(Mb l (iQ f p.1 p.2) λq b=>h q (jI _ b)).trans (cM (oU (h p lW)))
theorem Wr.nw(h:Wr A d e)(c:¬A a):e.nw a=d.nw a:=by obtain⟨l,o,f,k,b,rfl,_⟩:=h;grind[Mb]
def Cu(d:Dv):∃o,eG d= {d with ops:=o}:=by unfold eG;split<;>exact⟨_,ae⟩
def XY(d:Dv)(i:Int):Wr A d (fZ d i).1:=by obtain⟨o,h⟩:=Cu d;exact⟨[],o,d.left,d.cO,by simp,by simp[fZ,h,rz],id⟩
theorem Mc(d:Dv):∃o f k,(iZ (eG d)).1=⟨d.n,d.st,d.nw,d.ps,o,f,k⟩/\(d.al->(iZ (eG d)).2=true/\k=false/\f= -1):=by obtain⟨o,h⟩:=Cu d;rw[h];unfold iZ Dv.al;split<;>grind
theorem T5(d:Dv)(i:Int)(s:cD)(h:∀a:Nat,(a:Int)=i->A a):Wr A d (gu d i s).1/\((gu d i s).2=0->0<=i/\i<d.n/\(gu d i s).1.nw=iQ d.nw i.toNat s)/\(d.al->0<=i->i<d.n->(gu d i s).2=0):=by obtain⟨o,f,k,e,j⟩:=Mc d;obtain⟨o',l⟩:=Cu d;unfold gu PG;by_cases c:0<=i/\i<(d.n:Int);rw[cL iG,e];split;refine⟨⟨[(i.toNat,s)],o,f,k,?_,by rfl,λg=>(j g).2⟩,λ_=>⟨c.1,c.2,ae⟩,by simp⟩;grind;exact⟨⟨[],o,f,k,by simp,by simp[rz],λg=>(j g).2⟩,by simp,by grind⟩;rw[cM iG,l];exact⟨⟨[],o',d.left,d.cO,by simp,by simp[rz],id⟩,by simp,λ_ a b=>absurd ⟨a,b⟩ c⟩
structure PW(A:Nat->Prop)(s t:Pl):Prop where
 wr:Wr A s.dv t.dv
 st:t.cA=s.cA
 ba:t.base=s.base
theorem PW.refl{A:Nat->Prop}(s:Pl):PW A s s:=⟨.refl _,ae,ae⟩
theorem PW.trans{A:Nat->Prop}{s t u:Pl}(h:PW A s t)(g:PW A t u):PW A s u:=⟨h.wr.trans g.wr,g.st.trans h.st,g.ba.trans h.ba⟩
def PW.mono(h:PW A s t)(g:∀a,A a->B a):PW B s t:=⟨h.wr.mono g,h.st,h.ba⟩
theorem Q1{A:Nat->Prop}(s:Pl)(q:cy):PW A s (fD s q).1/\(fD s q).1.mp=s.mp:=by unfold fD;split;exact⟨.refl _,ae⟩;exact⟨⟨XY _ q.1,ae,ae⟩,ae⟩
def GP(D:Nat->cD)(n:Nat)(q:cy):Prop:=q=cH∨(q.1<n/\j9 (D q.1)=q.2.2)
def Jn(D:Nat->cD)(q:cy):cD:=if q=cH then eP else D q.1
theorem Wl(h:s.dv.cO=false)(g:GP s.dv.nw s.dv.n q):(fD s q).2=(Jn s.dv.nw q,0):=by unfold fD Jn;split;rfl;rcases g with g|⟨g1,g2⟩<;>grind[fZ,PG]
theorem ag0(h:(fD s q).2.2=0):GP s.dv.nw s.dv.n q/\(fD s q).2.1=Jn s.dv.nw q:=by unfold fD Jn GP fZ PG at*;grind
theorem T6{A:Nat->Prop}(s:Pl)(i:Int)(b:cD)(h:∀a:Nat,(a:Int)=i->A a):PW A s (jE s i b).1/\(jE s i b).1.mp=s.mp/\((jE s i b).2.2=0->0<=i/\i<s.dv.n/\(jE s i b).2.1=(i.toNat,s.cA,j9 (oe b))/\(jE s i b).1.dv.nw=iQ s.dv.nw i.toNat (oe b))/\(s.dv.al->0<=i->i<s.dv.n->(jE s i b).2.2=0):=by have g:=T5 (A:=A) s.dv i (oe b) h;unfold jE;refine⟨⟨g.1,ae,ae⟩,ae,λe=>?_,λa b c=>?_⟩;grind;grind
structure Put(s:Pl)(b:cD)(r:Pl×(cy×Int)):Prop where
 fr:s.mp r.2.1.1=1
 lt:r.2.1.1<s.dv.n
 q:r.2.1=(r.2.1.1,s.cA,j9 (oe b))
 mp:r.1.mp=jP s.mp r.2.1.1 2
 nw:r.1.dv.nw=iQ s.dv.nw r.2.1.1 (oe b)
theorem ac1(s:Pl)(b:cD):PW (λa=>s.mp a=1) s (rJ s b).1/\((rJ s b).2.2=0->Put s b (rJ s b))/\(s.dv.al->b.length<=128->0<eF s.mp->(∀a,s.mp a=1->a<s.dv.n)->(rJ s b).2.2=0):=by
 unfold rJ;split;exact⟨.refl _,by simp,by grind⟩;split;next h=>exact⟨.refl _,by simp,λ_ _ c=>by grind [Bb]⟩
 next i h=>(have d:=(oY h).2.1;have g:=T6 (A:=λa=>s.mp a=1) s i b λa e=>by grind);split;(next h2=>refine⟨⟨g.1.wr,g.1.st,g.1.ba⟩,λ_=>?_,λ_ _ _ _=>h2⟩;refine⟨?_,?_,?_,?_,?_⟩<;>simp only[(g.2.2.1 h2).2.2.1]<;>grind);grind
theorem pP(w:Nat):∀n,n<256^w->iH (pE w n)=n:=by
 induction w with
 |zero=>grind[pE,iH]
 |succ w ih=>
  intro n h;have e:pE (w+1) n=n%256::pE w (n/256):=by simp_all[pE,range_succ_eq_map,pow_succ',Nat.div_div_eq_div_mul]
  grind[iH]
theorem Md{p:cy}(h:cY p):zy (gK p)=p:=by unfold zy gK;have a:=fo 4 p.1;have b:=fo 8 p.2.1;simp only[take_append,drop_append,a,b,fo];simp[nz,Bw,a,b,fo];rw[pP 4 _ h.1,pP 8 _ h.2.1,pP 4 _ h.2.2]
theorem vD{p:cy}(h:cY p)(r:fY p=true):mU (gK p)=some p:=by simp_all[mU,Md,ff]
theorem Jo{l:Nat->cy}{b:cD}(a:lZ l=some b)(f:∀i,i<8->cY (l i))(d:∀i,8<=i->l i=cH):b.length=128/\oF b=some l:=by
 unfold lZ at a;split at a
 . next ha=>
   cases a;have e:∀i,i<8->yB (lH l 8) i=gK (l i):=by
    intro i c;unfold yB lH;rcases(by omega:i=0∨i=1∨i=2∨i=3∨i=4∨i=5∨i=6∨i=7) with rfl|rfl|rfl|rfl|rfl|rfl|rfl|rfl<;>
     simp[range_succ,drop_append,take_append,(λi=>ff (l i)),Bw,nz]
   (have g:∀i,i<8->mU (yB (lH l 8) i)=some (l i):=λi c=>by grind[vD,JE]);refine⟨pM l 8,?_⟩;unfold oF;rw[cL (by grind[okN])];congr 1;grind[Dw,Md]
 cases a
def nd(D:Nat->cD)(q:cy):Nat->cy:=if q=cH then l6 else(oF (D q.1)).getD l6
def pt(D:Nat->cD)(r:cy)(k:Nat):cy:=if k=0 then r else if k<9 then nd D r (k-1) else if k<73 then nd D (nd D r ((k-9)/8)) ((k-9)%8) else cH
def par(k:Nat):Nat:=if k<9 then 0 else(k-9)/8+1
theorem ac3(D:Nat->cD)(r:cy)(h:0<k)(a:k<73):pt D r k=nd D (pt D r (par k)) (if k<9 then k-1 else(k-9)%8):=by grind[pt,par]
def Gx(D:Nat->cD):nd D cH=l6:=cL ae
theorem afi(D:Nat->cD)(q:cy){i:Nat}(h:8<=i):nd D q i=cH:=by unfold nd oF;split;rfl;split;exact cM cw;rfl
theorem vE{D E:Nat->cD}{q:cy}(h:q≠cH->E q.1=D q.1):nd E q=nd D q:=by grind[nd]
theorem ac4{D:Nat->cD}(h:mG D)(q:cy)(i:Nat):cY (nd D q i):=by unfold nd;split;exact dA;cases e:oF (D q.1) with|none=>exact dA|some l=>exact yD (h _) e i
theorem ac5{r:cy}(h:∀k,k<9->pt D r k≠cH->E (pt D r k).1=D (pt D r k).1)(k:Nat):pt E r k=pt D r k:=by
 have a:nd E r=nd D r:=vE (h 0 cw);unfold pt;rw[a];split;rfl;split;rfl;split;next h1 h2 h3=>have:=h ((k-9)/8+1) cw;rw[vE (D:=D)];unfold pt at this;grind
 rfl
def GN(D:Nat->cD)(n:Nat)(q:cy):Prop:=GP D n q/\(q≠cH->(oF (D q.1)).isSome=true)
def Me:oF eP=some l6:=by
 unfold oF;rw[cL mB];congr 1;funext i;unfold Dw l6;split;next h=>exact(show∀i:Fin 8,zy (yB eP i)=cH by decide+kernel) ⟨i,h⟩
 rfl
theorem Dp(s:Pl)(q:cy):PW A s (cQ s q).1/\(cQ s q).1.mp=s.mp:=by grind[Q1,cQ]
theorem Q2(h:s.dv.cO=false)(g:GN s.dv.nw s.dv.n q):(cQ s q).2=(nd s.dv.nw q,0):=by unfold cQ nd;rw[Wl h g.1];unfold Jn;by_cases a:q=cH;simp[a,Me];have:=g.2 a;grind
theorem J7(h:(cQ s q).2.2=0):(cQ s q).2.1=nd s.dv.nw q:=by unfold cQ at*;unfold nd;by_cases a:(fD s q).2.2=0;have e:=(ag0 a).2;unfold Jn at e;simp only[a,ne_eq,vQ,lE] at h|-;by_cases b:q=cH;simp_all[Me];grind;grind
def PW.nw(h:PW A s t)(a:Nat)(b:¬A a):t.dv.nw a=s.dv.nw a:=h.wr.nw b
def Gy(s:Pl)(q:cy)(i:Nat):PW A s (eB s q i).1/\(eB s q i).1.mp=s.mp:=by have h:=Dp (A:=A) s q;have g:=Dp (A:=A) (cQ s q).1 ((cQ s q).2.1 (i/8));unfold eB;split;exact h;split<;>exact⟨h.1.trans g.1,g.2.trans h.2⟩
def afj(s:Pl)(q:cy):(cQ s q).1.dv.nw=s.dv.nw:=funext λa=>(Dp (A:=λ_=>False) s q).1.nw a id
theorem XZ(h:(eB s q i).2.2=0):(eB s q i).2.1=⟨nd s.dv.nw q,nd s.dv.nw (nd s.dv.nw q (i/8)),nd s.dv.nw (nd s.dv.nw q (i/8)) (i%8)⟩:=by unfold eB at*;by_cases a:(cQ s q).2.2=0;rw[cM cw] at h|-;have b:=J7 a;by_cases c:(cQ (cQ s q).1 ((cQ s q).2.1 (i/8))).2.2=0;simp_all[J7,afj];grind;grind
def Kp(i k:Nat):Prop:=k=0∨k=1+i/8∨k=9+i
structure Mf(s t:Pl)(q:cy):Prop where
 fr:s.mp q.1=1
 tk:t.mp q.1=2
 bi:q.2.1=s.cA
 su:j9 (t.dv.nw q.1)=q.2.2
structure Ch(s t:Pl)(cz top:cy)(i:Nat)(iV:List cy):Prop where
 pw:PW (λa=>s.mp a=1) s t
 fV:∀k,¬Kp i k->pt t.dv.nw top k=pt s.dv.nw cz k
 new:∀k,Kp i k->pt t.dv.nw top k≠cH->Mf s t (pt t.dv.nw top k)/\(k<9->(oF (t.dv.nw (pt t.dv.nw top k).1)).isSome=true)
 inj:∀k l,Kp i k->Kp i l->pt t.dv.nw top k≠cH->pt t.dv.nw top l≠cH->(pt t.dv.nw top k).1=(pt t.dv.nw top l).1->k=l
 mp2:∀a,s.mp a≠1->t.mp a=s.mp a
 X0:∀a,s.mp a=1->t.mp a=1∨(t.mp a=2/\∃k,Kp i k/\pt t.dv.nw top k≠cH/\(pt t.dv.nw top k).1=a)
 iV:∀q,q∈iV↔q≠cH/\∃k,Kp i k/\pt s.dv.nw cz k=q
def rR(n:Nat)(mp:Nat->Nat):Prop:=∀a,mp a<=3/\(mp a≠0↔4<=a/\a<n)
theorem Dq(s:Pl)(l:Nat->cy):PW (λa=>s.mp a=1) s (eH s l).1/\((eH s l).2.2=0->(∀i,i<8->cY (l i))->(∀i,8<=i->l i=cH)->∃b,Put s b (eH s l)/\oF b=some l/\oe b=b/\∀x∈oe b,x<256)/\(s.dv.al->JE l 8=true->0<eF s.mp->(∀a,s.mp a=1->a<s.dv.n)->(eH s l).2.2=0):=by unfold eH;cases h:lZ l with|none=>exact⟨.refl _,by simp,λ_ a=>by grind[lZ]⟩|some b=>grind[ac1,lZ,pM,lH,oE,Jo,Hf]
theorem Put.ne(h:Put s b r)(g:∀a,s.mp a=1->4<=a/\a<s.dv.n):r.2.1≠cH:=λe=>by have:=h.fr;grind[cH]
theorem ac6{D:Nat->cD}{q:cy}{b:cD}{l:Nat->cy}(a:q≠cH)(h:oF b=some l):nd (iQ D q.1 b) q=l:=by unfold nd iQ;grind
theorem ac7{top bq:cy}(j:i<64)(f:nd E top=ig (nd D cz) (i/8) q2)(g:nd E q2=ig (nd D (nd D cz (i/8))) (i%8) bq)(h:∀c,c<8->c≠i/8->nd E (nd D cz c)=nd D (nd D cz c))(k:Nat):
 pt E top k=if k=0 then top else if k=1+i/8 then q2 else if k=9+i then bq else pt D cz k:=by unfold pt;by_cases a:k=0;simp[a];by_cases b:k<9;rw[cM a,cL b,cM a,f];unfold ig;grind;by_cases e:k<73;rw[cM a,cM b,cL e,cM a,cM cw,f];by_cases d:(k-9)/8=i/8;rw[show ig (nd D cz) (i/8) q2 ((k-9)/8)=q2 from cL d,g];unfold ig;grind;rw[show ig (nd D cz) (i/8) q2 ((k-9)/8)=nd D cz ((k-9)/8) from cM d,h _ cw d,cM cw,cM a,cM b,cL e];grind
theorem af3{top bq:cy}(u:i<64)(b:PW (λa=>s.mp a=1) s t)(v:∀k,k<9->pt s.dv.nw cz k≠cH->s.mp (pt s.dv.nw cz k).1≠1)(r:nd t.dv.nw top=ig (nd s.dv.nw cz) (i/8) q2)(p:nd t.dv.nw q2=ig (nd s.dv.nw (nd s.dv.nw cz (i/8))) (i%8) bq)(w:top≠cH->Mf s t top/\(oF (t.dv.nw top.1)).isSome=true)(x:q2≠cH->Mf s t q2/\(oF (t.dv.nw q2.1)).isSome=true)(y:bq≠cH->Mf s t bq)(f:top≠cH->q2≠cH->top.1≠q2.1)(g:top≠cH->bq≠cH->top.1≠bq.1)(j:q2≠cH->bq≠cH->q2.1≠bq.1)(mp:∀a,t.mp a=if(top≠cH/\top.1=a)∨(q2≠cH/\q2.1=a)∨(bq≠cH/\bq.1=a) then 2 else s.mp a):
 Ch s t cz top i (kH ⟨nd s.dv.nw cz,nd s.dv.nw (nd s.dv.nw cz (i/8)),nd s.dv.nw (nd s.dv.nw cz (i/8)) (i%8)⟩ cz i):=by
 have e:=ac7 (D:=s.dv.nw) (E:=t.dv.nw) u r p λc hc _=>vE λh=>b.nw _ (by
  have:=v (c+1) cw;unfold pt at this;grind)
 have m:pt t.dv.nw top 0=top:=by rw[e];simp
 have n:pt t.dv.nw top (1+i/8)=q2:=by grind
 have o:pt t.dv.nw top (9+i)=bq:=by grind
 have z:pt s.dv.nw cz 0=cz:=rfl;have A:pt s.dv.nw cz (1+i/8)=nd s.dv.nw cz (i/8):=by unfold pt;grind
 have B:pt s.dv.nw cz (9+i)=nd s.dv.nw (nd s.dv.nw cz (i/8)) (i%8):=by unfold pt;grind
 refine⟨b,λk h=>?_,?_,?_,λa d=>?_,λa d=>?_,λq=>?_⟩;simp_all[Kp];rintro k (rfl|rfl|rfl) h;grind;grind;grind;rintro k l (rfl|rfl|rfl) (rfl|rfl|rfl) h1 h2 h3<;>simp only[m,n,o] at h1 h2 h3<;>grind;rw[mp,cM];rintro(⟨h,rfl⟩|⟨h,rfl⟩|⟨h,rfl⟩);exact d (w h).1.fr;exact d (x h).1.fr;exact d (y h).fr;rw[mp];split;(next h=>refine .inr ⟨ae,?_⟩;rcases h with h|h|h;exact⟨0,.inl ae,by grind⟩;exact⟨1+i/8,.inr ax,by grind⟩;exact⟨9+i,.inr au,by grind⟩);omega;unfold kH Kp;grind
theorem J8{p:cy}{c:Nat}(a:mG D)(d:cY p)(hc:c<8):(∀i,i<8->cY (ig (nd D q) c p i))/\∀i,8<=i->ig (nd D q) c p i=cH:=by unfold ig;exact⟨λi _=>by grind[ac4],λi b=>by rw[cM cw];grind[afi]⟩
def Put.parts(h:Put s b r)(d:gU s.cA)(e:∀a,s.mp a=1->4<=a/\a<s.dv.n)(f:s.dv.n<=1024)(c:∀x∈oe b,x<256):cY r.2.1:=by rw[h.q];exact⟨by have:=h.lt;omega,d,BR _ c⟩
def PW.nn(h:PW (λ_=>False) s t):t.dv.nw=s.dv.nw:=funext λa=>h.nw a id
theorem Put.fit(h:Put s b r)(c:rR s.dv.n s.mp):rR s.dv.n r.1.mp:=by intro a;have:=c a;have:=c r.2.1.1;have:=h.fr;rw[h.mp];grind[jP]
theorem Wm(X:mG s.dv.nw)(R:gU s.cA)(F:s.dv.n<=1024)(F:rR s.dv.n s.mp)(Y:∀k,k<9->pt s.dv.nw cz k≠cH->s.mp (pt s.dv.nw cz k).1≠1){i:Int}(G:∀x∈b,x<256):
 PW (λa=>s.mp a=1) s (kh s cz i b).1/\((kh s cz i b).2.2.2=0->0<=i/\i<64/\Ch s (kh s cz i b).1 cz (kh s cz i b).2.1 i.toNat (kh s cz i b).2.2.1/\(kh s cz i b).1.dv.nw (pt (kh s cz i b).1.dv.nw (kh s cz i b).2.1 (9+i.toNat)).1=oe b):=by
 have t:=Gy (A:=λa=>s.mp a=1) s cz i.toNat;have I:=(Gy (A:=λ_=>False) s cz i.toNat).1.nn;have u:=XZ (s:=s) (q:=cz) (i:=i.toNat);have H:∀a,s.mp a=1->4<=a/\a<s.dv.n:=λa h=>(F a).2.1 cw;unfold kh;split;exact bx
 next hi=>
 split
 . exact bx
 next hl=>
 generalize eB s cz i.toNat=W at*;obtain⟨z,y,c⟩:=W;simp only at t u I|-;split
 . grind
 next h0=>
 split
 . grind
 have F:z.dv.n=s.dv.n:=t.1.wr.n;have F:=t.1.st;have v:=ac1 z b;rw[t.2] at v;generalize rJ z b=P at*;obtain⟨d,bq,F⟩:=P;simp only at v|-;have f:=t.1.trans v.1;split
 . grind
 next h2=>
 have j:=v.2.1 cw;have w:d.mp=jP s.mp bq.1 2:=by have:=j.mp;grind
 obtain rfl:=u cw;have g:=Dq d (ig (nd s.dv.nw (nd s.dv.nw cz (i.toNat/8))) (i.toNat%8) bq);simp only at g|-;generalize eH d (ig (nd s.dv.nw (nd s.dv.nw cz (i.toNat/8))) (i.toNat%8) bq)=U at*;obtain⟨e,q2,F⟩:=U;simp only at g|-;have o:=f.trans (g.1.mono λa h=>by rw[w] at h;grind[jP]);split
 . grind
 next h3=>
 have F:d.dv.n=s.dv.n:=f.wr.n;have O:=J8 (q:=nd s.dv.nw cz (i.toNat/8)) X (j.parts iG bR cw (Fz cw G).2) (c:=i.toNat%8) cw;obtain⟨B,l,F,l2,G⟩:=g.2.1 cw O.1 O.2;have J:e.mp=jP d.mp q2.1 2:=l.mp;have n:rR d.dv.n d.mp:=by have:=j.fit iG;grind
 have H:=Dq e (ig (nd s.dv.nw cz) (i.toNat/8) q2);generalize eH e (ig (nd s.dv.nw cz) (i.toNat/8) q2)=T at*;obtain⟨m,top,F⟩:=T;simp only at H|-;have p:=o.trans (H.1.mono λa h=>by rw[J,w] at h;grind[jP]);split
 . grind
 next h4=>
 have F:e.dv.n=s.dv.n:=o.wr.n;have Q:=J8 (q:=cz) X (l.parts (by rw[f.st];exact R) (λa h=>(n a).2.1 cw) cw G) (c:=i.toNat/8) (by grind[l7]);obtain⟨C,r,F,F,_⟩:=H.2.1 cw Q.1 Q.2;have G:rR e.dv.n e.mp:=by have:=l.fit n;grind
 have Z:0<=i/\i<64:=by grind[l7]
 refine⟨p,λ_=>⟨Z.1,Z.2,?_⟩⟩
 have F:=l.fr;have R:=r.fr;have H:=j.ne bR;have H:=l.ne (λa h=>(n a).2.1 cw);have H:=r.ne (λa h=>(G a).2.1 cw);have G:d.dv.nw=iQ s.dv.nw bq.1 (oe b):=by have:=j.nw;grind
 have H:e.dv.nw=iQ d.dv.nw q2.1 B:=by have:=l.nw;grind
 have I:m.dv.nw=iQ e.dv.nw top.1 C:=by have:=r.nw;grind
 have m4:m.mp=jP e.mp top.1 2:=r.mp;have Z:bq.2.1=z.cA/\bq.2.2=j9 (oe b):=⟨fK (·.2.1) j.q,fK (·.2.2) j.q⟩;have d2:q2.2.1=d.cA/\q2.2.2=j9 B:=⟨fK (·.2.1) l.q,by have:=fK (·.2.2) l.q;grind⟩;have N:top.2.1=e.cA/\top.2.2=j9 C:=⟨fK (·.2.1) r.q,by have:=fK (·.2.2) r.q;grind⟩;simp only[w,J,jP] at F R;have K:q2.1≠bq.1:=by grind
 have L:top.1≠bq.1:=by grind
 have M:top.1≠q2.1:=by grind
 have E:s.mp q2.1=1:=by grind
 have F:s.mp top.1=1:=by grind
 have U:m.dv.nw bq.1=oe b:=by rw[I,H,G];grind[iQ]
 have z2:m.dv.nw q2.1=B:=by rw[I,H,G];grind[iQ]
 have H:m.dv.nw top.1=C:=by simp_all[iQ]
 have V:nd m.dv.nw top=ig (nd s.dv.nw cz) (i.toNat/8) q2:=by grind[ac6]
 have R:nd m.dv.nw q2=ig (nd s.dv.nw (nd s.dv.nw cz (i.toNat/8))) (i.toNat%8) bq:=by
  simp_all[nd]
 have G:∀a,m.mp a=if top.1=a∨q2.1=a∨bq.1=a then 2 else s.mp a:=by intro a;rw[m4,J,w];grind[jP]
 refine⟨af3 cw p Y V R (λ_=>⟨⟨F,?_,?_,?_⟩,?_⟩) (λ_=>⟨⟨E,?_,?_,?_⟩,?_⟩) (λ_=>⟨(by have:=j.fr;grind),?_,?_,?_⟩) (λ_ _=>M) (λ_ _=>L) (λ_ _=>K) (λa=>?_),?_⟩
 . grind
 . exact N.1.trans o.st
 . rw[H,N.2]
 . grind
 . grind
 . exact d2.1.trans f.st
 . rw[z2,d2.2]
 . grind
 . grind
 . omega
 . rw[U,Z.2]
 . grind
 . rw[ac7 (D:=s.dv.nw) cw V R (λc hc _=>vE λh=>p.nw _ (by
    have:=Y (c+1) cw;unfold pt at this;grind)),cM cw,cM cw,cL ae,U]
theorem OT{l:Nat->cy}(h:qw l=true)(g:∀i,8<=i->l i=cH):l=l6:=by funext i;by_cases a:i<8;simp_all[qw,Xr];simp_all[l6]
structure Sav(s t:Pl)(l:Nat->cy)(q:cy):Prop where
 pw:PW (λa=>s.mp a=1) s t
 nd:nd t.dv.nw q=l
 new:q≠cH->Mf s t q/\(oF (t.dv.nw q.1)).isSome=true
 nw:∀a,¬(q≠cH/\q.1=a)->t.dv.nw a=s.dv.nw a
 mp:∀a,t.mp a=if q≠cH/\q.1=a then 2 else s.mp a
 parts:cY q
theorem Sav.map{l:Nat->cy}(h:Sav s t l q)(c:rR s.dv.n s.mp):rR t.dv.n t.mp:=by
 intro a;have:=c a;rw[h.mp,h.pw.wr.n];split;next e=>obtain⟨b,rfl⟩:=e;have:=(h.new b).1.fr;grind
 omega
theorem ag1{s:Pl}:Sav s s l6 cH:=⟨.refl _,Gx _,by simp,by simp,by simp,dA⟩
theorem Q3{s:Pl}(n:gU s.cA)(m:s.dv.n<=1024)(j:rR s.dv.n s.mp){l:Nat->cy}(d:∀i,i<8->cY (l i))(f:∀i,8<=i->l i=cH)(h:(eH s l).2.2=0):Sav s (eH s l).1 l (eH s l).2.1:=by
 have g:=Dq s l;obtain⟨b,p,r,e,x⟩:=g.2.1 h d f;have c:∀a,s.mp a=1->4<=a/\a<s.dv.n:=λa h=>(j a).2.1 cw;have k:=p.ne c;have w:=p.nw;rw[e] at w;have z:(eH s l).1.dv.nw (eH s l).2.1.1=b:=by rw[w];simp[iQ]
 refine⟨g.1,by grind[ac6],λ_=>⟨⟨p.fr,by rw[p.mp];simp[jP],fK (·.2.1) p.q,?_⟩,by rw[z,r];rfl⟩,λa o=>?_,λa=>?_,p.parts n c m x⟩;rw[z];have:=fK (·.2.2) p.q;grind;rw[w];grind[iQ];rw[p.mp];grind[jP]
def Mf.on(h:Mf s t q)(b:u.dv.nw q.1=t.dv.nw q.1)(a:u.mp q.1=t.mp q.1):Mf s u q:=⟨h.fr,a.trans h.tk,h.bi,by rw[b];exact h.su⟩
def Mf.back(h:Mf t u q)(b:t.cA=s.cA)(a:s.mp q.1=1):Mf s u q:=⟨a,h.tk,h.bi.trans b,h.su⟩
theorem ac8{top:cy}(j:i<64)(l:∀k,k<9->pt s.dv.nw cz k≠cH->s.mp (pt s.dv.nw cz k).1≠1)(h:Sav s t (ig (nd s.dv.nw (nd s.dv.nw cz (i/8))) (i%8) cH) q2)(g:Sav t u (ig (nd s.dv.nw cz) (i/8) q2) top):
 Ch s u cz top i (kH ⟨nd s.dv.nw cz,nd s.dv.nw (nd s.dv.nw cz (i/8)),nd s.dv.nw (nd s.dv.nw cz (i/8)) (i%8)⟩ cz i):=by
 have d:top≠cH->q2≠cH->top.1≠q2.1:=λa b e=>by have f:=(g.new a).1.fr;rw[h.mp] at f;grind
 have c:∀a,t.mp a=1->s.mp a=1:=λa e=>by rw[h.mp] at e;grind
 have k:q2≠cH->u.dv.nw q2.1=t.dv.nw q2.1:=λb=>g.nw _ λe=>d e.1 b e.2;refine af3 (bq:=cH) j (h.pw.trans (g.pw.mono c)) l g.nd ((vE k).trans h.nd) (λa=>⟨(g.new a).1.back h.pw.st (c _ (g.new a).1.fr),(g.new a).2⟩)
  (λb=>⟨(h.new b).1.on (k b) ?_,by rw[k b];exact(h.new b).2⟩) dU d dU dU λa=>?_
 rw[g.mp,cM λe=>d e.1 b e.2];rw[g.mp,h.mp];grind
def Ch.quiet{top:cy}(q:PW (λ_=>False) s t)(m:t.mp=s.mp)(h:Ch t u cz top i iV):Ch s u cz top i iV:=by have e:=q.nn;refine⟨(q.mono λa h=>h.elim).trans (m▸h.pw),λk c=>e▸h.fV k c,λk c b=>⟨(h.new k c b).1.back q.st (m▸(h.new k c b).1.fr),(h.new k c b).2⟩,h.inj,λa d=>m▸h.mp2 a (m▸d),λa d=>h.X0 a (m▸d),λa=>e▸h.iV a⟩
theorem Z'(z:mG s.dv.nw)(C:gU s.cA)(B:s.dv.n<=1024)(A:rR s.dv.n s.mp)(o:∀k,k<9->pt s.dv.nw cz k≠cH->s.mp (pt s.dv.nw cz k).1≠1)(n:i<64){y:Way}(r:y=⟨nd s.dv.nw cz,nd s.dv.nw (nd s.dv.nw cz (i/8)),nd s.dv.nw (nd s.dv.nw cz (i/8)) (i%8)⟩):
 PW (λa=>s.mp a=1) s (mY s y cz i).1/\((mY s y cz i).2.2.2=0->Ch s (mY s y cz i).1 cz (mY s y cz i).2.1 i (mY s y cz i).2.2.1/\pt (mY s y cz i).1.dv.nw (mY s y cz i).2.1 (9+i)=cH):=by
 have j:∀{t u:Pl}{q2 top:cy},Sav s t (ig (nd s.dv.nw (nd s.dv.nw cz (i/8))) (i%8) cH) q2->Sav t u (ig (nd s.dv.nw cz) (i/8) q2) top->Ch s u cz top i (kH y cz i)/\pt u.dv.nw top (9+i)=cH:=by
  intro t u q2 top h g;rw[r];refine⟨ac8 n o h g,?_⟩;have c:=ac8 n o h g;have d:q2≠cH->u.dv.nw q2.1=t.dv.nw q2.1:=λb=>g.nw _ λe=>by
   have l:=(g.new e.1).1.fr;rw[h.mp] at l;grind
  rw[ac7 (D:=s.dv.nw) n g.nd ((vE d).trans h.nd) (λE hc _=>vE λh=>c.pw.nw _ (by
   have:=o (E+1) cw;unfold pt at this;grind)),cM cw,cM cw,cL ae]
 have v:y.first=nd s.dv.nw cz:=by rw[r]
 have F:y.lJ=nd s.dv.nw (nd s.dv.nw cz (i/8)):=by rw[r]
 have x:=J8 (q:=nd s.dv.nw cz (i/8)) z dA (c:=i%8) cw;have w:=λq2(h:cY q2)=>J8 (q:=cz) z h (c:=i/8) cw;have I:∀q2,ig (ig y.first (i/8) cH) (i/8) q2=ig (nd s.dv.nw cz) (i/8) q2:=λq2=>by rw[v];grind[ig]
 unfold mY;simp only[F,I];rw[v];by_cases m:qw (ig (nd s.dv.nw (nd s.dv.nw cz (i/8))) (i%8) cH)=true;(have K:Sav s s (ig (nd s.dv.nw (nd s.dv.nw cz (i/8))) (i%8) cH) cH:=by grind[OT,ag1]);by_cases l:qw (ig (nd s.dv.nw cz) (i/8) cH)=true;(have J:Sav s s (ig (nd s.dv.nw cz) (i/8) cH) cH:=by grind[OT,dA]);simp only[l,m,nI,u',lE,ne_eq,vQ,tP,(by decide:¬(0:Nat)=2)];exact⟨.refl _,λ_=>j K J⟩;simp only[l,m,nI,lE,ne_eq,vQ,yn,(by decide:¬(1:Nat)=2),Kd];split;exact bx;grind[Dq,Q3,dA];simp only[m,nI,lE,ne_eq,Kd,(by decide:(0:Nat)<2)];split;exact bx;have p:=Dq s (ig (nd s.dv.nw (nd s.dv.nw cz (i/8))) (i%8) cH);split;grind;next h=>have f:=Q3 C B A x.1 x.2 cw;generalize eH s (ig (nd s.dv.nw (nd s.dv.nw cz (i/8))) (i%8) cH)=U at*;have G:=Dq U.1 (ig (nd s.dv.nw cz) (i/8) U.2.1);have H:=p.1.trans (G.1.mono λa e=>by rw[f.mp] at e;grind);split;grind;next h=>exact⟨H,λ_=>j f (Q3 (by rw[f.pw.st];exact C) (by rw[f.pw.wr.n];exact B) (f.map A) (w _ f.parts).1 (w _ f.parts).2 cw)⟩
theorem Q4(r:mG s.dv.nw)(o:gU s.cA)(v:s.dv.n<=1024)(u:rR s.dv.n s.mp)(t:∀k,k<9->pt s.dv.nw cz k≠cH->s.mp (pt s.dv.nw cz k).1≠1){i:Int}:
 PW (λa=>s.mp a=1) s (gC s cz i).1/\((gC s cz i).2.2.2=0->0<=i/\i<64/\(Ch s (gC s cz i).1 cz (gC s cz i).2.1 i.toNat (gC s cz i).2.2.1/\pt (gC s cz i).1.dv.nw (gC s cz i).2.1 (9+i.toNat)=cH∨
  (gC s cz i).1.mp=s.mp/\(gC s cz i).1.dv.nw=s.dv.nw/\(gC s cz i).2.1=cz/\(gC s cz i).2.2.1=[]/\pt s.dv.nw cz (9+i.toNat)=cH)):=by
 have b:=Gy (A:=λa=>s.mp a=1) s cz i.toNat;have f:=(Gy (A:=λ_=>False) s cz i.toNat).1;have j:=f.nn;have e:=XZ (s:=s) (q:=cz) (i:=i.toNat);unfold gC;split;exact bx
 next hi=>
 have l:0<=i/\i<64:=by grind[l7]
 generalize eB s cz i.toNat=W at*;obtain⟨⟨n,w,x,m⟩,y,c⟩:=W;simp only at b e j f|-;obtain rfl:=b.2;have d:=b.1.st;simp only at d;subst d;split;grind
 next h0=>
 obtain rfl:=e cw;have p:pt s.dv.nw cz (9+i.toNat)=nd s.dv.nw (nd s.dv.nw cz (i.toNat/8)) (i.toNat%8):=by unfold pt;grind
 split;grind;have g:=Z' (s:=⟨n,s.mp,s.cA,m⟩) iG o (by have:=b.1.wr.n;omega) (by have:=b.1.wr.n;grind) (cz:=cz) iG (i:=i.toNat) cw (y:=⟨nd s.dv.nw cz,nd s.dv.nw (nd s.dv.nw cz (i.toNat/8)),nd s.dv.nw (nd s.dv.nw cz (i.toNat/8)) (i.toNat%8)⟩) iG;exact⟨b.1.trans g.1,λh=>⟨l.1,l.2,.inl ⟨(g.2 h).1.quiet f ae,(g.2 h).2⟩⟩⟩
def afk(D:Nat->cD)(st:Nat)(q:cy):List cy:=if iP q st=true then q:: (ly (nd D q)).filter (iP · st) else []
theorem ac9(st:Nat)(x:Pl×(List cy×Int))(q:cy):PW (λ_=>False) x.1 (iL st x q).1/\(iL st x q).1.mp=x.1.mp/\((iL st x q).2.2=0->x.2.2=0/\(iL st x q).2.1=x.2.1++afk x.1.dv.nw st q)/\(x.1.dv.cO=false->GN x.1.dv.nw x.1.dv.n q->x.2.2=0->(iL st x q).2.2=0/\(iL st x q).1.dv.cO=false):=by
 have h:=Dp (A:=λ_=>False) x.1 q;have g:=J7 (s:=x.1) (q:=q);have k:=λa=>Q2 (s:=x.1) (q:=q) a;have b:(cQ x.1 q).1.dv.cO=x.1.dv.cO:=by grind[cQ,fD,fZ,eG]
 unfold iL afk;split;next h0=>exact⟨.refl _,ae,λh=>absurd h h0,λ_ _ h=>absurd h h0⟩
 next h0=>
 split;next h1=>exact⟨.refl _,ae,λh=>⟨h,by simp[h1]⟩,λa _ c=>⟨c,a⟩⟩
 grind
theorem ada(st:Nat):∀(l:List cy)(x:Pl×(List cy×Int)),PW (λ_=>False) x.1 (sd st l x).1/\(sd st l x).1.mp=x.1.mp/\((sd st l x).2.2=0->x.2.2=0/\(sd st l x).2.1=x.2.1++l.flatMap (afk x.1.dv.nw st))/\(x.1.dv.cO=false->(∀q∈l,GN x.1.dv.nw x.1.dv.n q)->x.2.2=0->(sd st l x).2.2=0)
 | [],x=>⟨.refl _,ae,λh=>⟨h,by simp[sd]⟩,λ_ _ h=>h⟩
 |q::l,x=>by
  have h:=ac9 st x q;have g:=ada st l (iL st x q);have e:sd st (q::l) x=sd st l (iL st x q):=rfl;rw[e];refine⟨h.1.trans g.1,g.2.1.trans h.2.1,λa=>?_,λa b c=>?_⟩
  . have f:=g.2.2.1 a;have d:=h.2.2.1 f.1;exact⟨d.1,by rw[f.2,d.2,h.1.nn,zY,wh]⟩
  . have d:=h.2.2.2 a (b q lW) c;refine g.2.2.2 d.2 (λj i=>?_) d.1;rw[h.1.nn,h.1.wr.n];grind
def adb(D:Nat->cD)(r:cy):Prop:=∀k,0<k->k<73->pt D r k≠cH->(pt D r k).2.1<=(pt D r (par k)).2.1
theorem pQ(q:cy)(st:Nat):iP q st=true↔q≠cH/\st<q.2.1:=by grind[iP]
theorem yf(s:Pl)(cz:cy)(st:Nat):PW (λ_=>False) s (fA s cz st).1/\(fA s cz st).1.mp=s.mp/\((fA s cz st).2.2=0->adb s.dv.nw cz->∀q,q∈(fA s cz st).2.1↔∃k,k<73/\pt s.dv.nw cz k=q/\q≠cH/\st<q.2.1)/\(s.dv.cO=false->(∀k,k<9->GN s.dv.nw s.dv.n (pt s.dv.nw cz k))->(fA s cz st).2.2=0):=by
 have h:=Dp (A:=λ_=>False) s cz;have y:(cQ s cz).1.dv.cO=s.dv.cO:=by grind[cQ,fD,fZ,eG]
 have g:=ada st (ly (cQ s cz).2.1) ((cQ s cz).1,([cz],0));have D:∀q,st<q.2.1->q≠cH->adb s.dv.nw cz->(∃k,k<73/\pt s.dv.nw cz k=q)->st<cz.2.1:=by rintro q o f m ⟨k,r,rfl⟩;rcases tZ k with rfl|n;exact o;have a:=m k n r f;by_cases l:k<9;rw[show par k=0 from cL l] at a;exact oS o a;(have v:par k=(k-9)/8+1:=cM l;have i:pt s.dv.nw cz (par k)≠cH:=λe=>by rw[ac3 _ _ n r,e,Gx] at f;exact f ae);have b:=m (par k) cw cw i;rw[show par (par k)=0 from cL cw] at b;have:pt s.dv.nw cz 0=cz:=rfl;grind
 unfold fA;split;next o=>refine⟨.refl _,ae,λ_ m q=>⟨by simp,?_⟩,λ_ _=>ae⟩;grind[pQ,cH]
 next o=>
 have w:=(pQ cz st).1 iG;split;next f=>exact⟨h.1,h.2,by simp[f],λa b=>by have:=Q2 a (b 0 cw);change(cQ s cz).2=_ at this;grind⟩
 next f=>have x:=J7 (s:=s) (q:=cz) cw;refine⟨h.1.trans g.1,g.2.1.trans h.2,λe m q=>?_,λa b=>?_⟩;rw[(g.2.2.1 e).2,x,h.1.nn];simp only[singleton_append,ib,By,ly,fM,wZ,afk];constructor;rintro(rfl|⟨_,⟨c,hc,rfl⟩,d⟩);exact⟨0,cw,ae,w.1,w.2⟩;(have t:pt s.dv.nw cz (c+1)=nd s.dv.nw cz c:=by unfold pt;grind);split at d;(next i=>have z:=(pQ _ _).1 i;rcases ib.1 d with rfl|d;grind;obtain⟨d,p⟩:=u9.1 d;obtain⟨j,u,rfl⟩:=fM.1 d;have u:=wZ.1 u;have p:=(pQ _ _).1 p;refine⟨9+8*c+j,cw,?_,p.1,p.2⟩;unfold pt;grind);cases d;rintro⟨k,r,rfl,d,C⟩;by_cases n:k=0;subst n;exact .inl ae;right;by_cases B:k<9;(have t:pt s.dv.nw cz k=nd s.dv.nw cz (k-1):=by simp_all[pt]);refine⟨_,⟨k-1,cw,ae⟩,?_⟩;simp_all[pQ];(have t:pt s.dv.nw cz k=nd s.dv.nw (nd s.dv.nw cz ((k-9)/8)) ((k-9)%8):=by simp_all[pt,cM]);(refine⟨_,⟨(k-9)/8,cw,ae⟩,?_⟩;have v:pt s.dv.nw cz (par k)=nd s.dv.nw cz ((k-9)/8):=by unfold par pt;grind);(have i:nd s.dv.nw cz ((k-9)/8)≠cH:=λe=>by rw[t,e,Gx] at d;exact d ae);have b:=m k cw r d;rw[v] at b;rw[cL ((pQ _ _).2 ⟨i,cw⟩)];grind[pQ];refine g.2.2.2 (y.trans a) (λq d=>?_) ae;rw[x] at d;obtain⟨c,hc,rfl⟩:=fM.1 d;have hc:=wZ.1 hc;have:=b (c+1) cw;rw[show pt s.dv.nw cz (c+1)=nd s.dv.nw cz c by unfold pt;grind] at this;show GN (cQ s cz).1.dv.nw (cQ s cz).1.dv.n _;rw[h.1.nn,h.1.wr.n];exact this
structure wM(base:Nat)(l:List cy)(m m':Nat->Nat):Prop where
 two:∀a,m' a=2↔m a=2/\∀q∈l,q≠cH->q.1≠a
 one:∀a,m' a=1->m a=1∨(m a=2/\∃q∈l,q.1=a/\base<q.2.1)
 ag2:∀a,m a=1->m' a=1
 zero:∀a,m' a=0↔m a=0
 le:(∀a,m a<=3)->∀a,m' a<=3
theorem drop_one(s:Pl)(q:cy)(h:q.1<1024):wM s.base [q] s.mp (oG s q).1.mp/\(oG s q).1.dv=s.dv/\(oG s q).1.base=s.base/\(oG s q).1.cA=s.cA:=by
 have e:∀v,tQ s.mp q.1 2 v=λa=>if a=q.1/\s.mp a=2 then v else s.mp a:=λv=>by
  funext a;have c:isB s.mp (q.1:Int) 2=decide (s.mp q.1=2):=by grind[isB]
  unfold tQ jP;rw[c];by_cases e:s.mp q.1=2<;>simp[e]<;>grind
 unfold oG;rw[e,e];split;next h0=>exact⟨⟨by grind,λ_ h=>.inl h,λ_ h=>h,λ_=>.rfl,id⟩,ae,ae,ae⟩
 split;exact akS;exact akS
theorem wM.trans{base:Nat}{l k:List cy}{a b c:Nat->Nat}(h:wM base l a b)(g:wM base k b c):wM base (l++k) a c:=by refine⟨λx=>?_,λx e=>?_,λx e=>g.ag2 x (h.ag2 x e),λx=>(g.zero x).trans (h.zero x),λe=>g.le (h.le e)⟩;rw[g.two,h.two];simp_all[or_imp,forall_and,and_assoc];rcases g.one x e with e|⟨e,q,hq,h1⟩;rcases h.one x e with e|⟨e,q,hq,h1⟩<;>grind;exact .inr ⟨((h.two x).1 e).1,q,Ej _ hq,h1⟩
def wX:∀(l:List cy)(s:Pl),(∀q∈l,q.1<1024)->wM s.base l s.mp (dI s l).mp/\(dI s l).dv=s.dv/\(dI s l).base=s.base/\(dI s l).cA=s.cA
 | [],s,_=>⟨⟨by simp[dI],λ_ h=>.inl h,λ_ h=>h,λ_=>.rfl,λh=>h⟩,ae,ae,ae⟩
 |q::l,s,h=>by
  have a:=drop_one s q (h q lW);have b:=wX l (oG s q).1 λp c=>h p (jI _ c);rw[a.2.2.1] at b;exact⟨a.1.trans b.1,b.2.1.trans a.2.1,b.2.2.1,b.2.2.2.trans a.2.2.2⟩
def Cv(top:Nat)(s:cR):Nat:=if s.cW=true then s.cA else top
def Up(M:cR->Prop)(s:cR)(b:Nat):Prop:=∃p,M p/\p.id=s.cT/\b<=p.cA
structure TI(f:cy->Nat->cy)(top:Nat)(M:cR->Prop):Prop where
 id:∀{s t},M s->M t->s.id=t.id->s=t
 pos:∀{s},M s->s.id≠0
 st:∀{s},M s->s.cW=true->s.cA<top
 bt:∀{s k},M s->f s.cz k≠cH->1<=(f s.cz k).2.1/\(f s.cz k).2.1<=Cv top s
 tN:∀{s t k l},M s->M t->f s.cz k≠cH->f t.cz l≠cH->(f s.cz k).1=(f t.cz l).1->k=l/\f s.cz k=f t.cz l
 E':∀{s t k},M s->M t->s≠t->f s.cz k=f t.cz k->f s.cz k≠cH->Up M s (f s.cz k).2.1∨Up M t (f s.cz k).2.1
 pr:∀{s},M s->s.cT≠0->∃p,M p/\p.id=s.cT/\p.cW=true/\p.cA<Cv top s
 iV:∀{s p k},M s->M p->p.id=s.cT->f s.cz k≠cH->(f s.cz k).2.1<=p.cA->f p.cz k=f s.cz k
 cO:∀{s p q},M s->M p->p.id=s.cT->(q∈s.cO↔q≠cH/\∃k,f p.cz k=q/\f s.cz k≠q)
 wy:∀{s},M s->s.cT=0->s.cO=[]
def Re(f:cy->Nat->cy)(M:cR->Prop)(a:Nat):Prop:=∃s k,M s/\f s.cz k≠cH/\(f s.cz k).1=a
section
def TI.up(T:TI f top M){s:cR}(c:M s)(g:f s.cz k≠cH)(h:Up M s (f s.cz k).2.1):∃p,M p/\p.id=s.cT/\p.cW=true/\p.cA<Cv top s/\f p.cz k=f s.cz k:=by obtain⟨p,a,e,l⟩:=h;obtain⟨m,b,d,i,j⟩:=T.pr c (by rw[<-e];exact T.pos a);obtain rfl:=T.id a b (e.trans d.symm);exact⟨p,a,e,i,j,T.iV c a e g l⟩
theorem TI.child(T:TI f top M){s:cR}(b:M s)(a:f s.cz k≠cH)(m:¬Up M s (f s.cz k).2.1):∀(n:Nat)(t:cR),Cv top t<=n->M t->f t.cz k=f s.cz k->t≠s->∃c,M c/\c.cT=s.id/\f c.cz k=f s.cz k
 |0,t,hn,ht,e,hne=>by
  obtain h|h:=T.E' b ht (oU hne) e.symm a
  . grind
  . rw[<-e] at h a;obtain⟨p,_,_,_,g,_⟩:=T.up ht a h;omega
 |n+1,t,hn,ht,e,hne=>by
  obtain h|h:=T.E' b ht (oU hne) e.symm a
  . grind
  . rw[<-e] at h;obtain⟨p,l,o,d,g,i⟩:=T.up ht iG h;by_cases j:p=s
    . grind
    . refine T.child b a m n p ?_ l (i.trans e) j;have:Cv top p=p.cA:=cL d;omega
def TI.alone(T:TI f top M){s:cR}(a:M s)(q:s.cW=false)(d:f s.cz k≠cH)(o:¬Up M s (f s.cz k).2.1){t:cR}(i:M t){l:Nat}(j:f t.cz l≠cH)(e:(f t.cz l).1=(f s.cz k).1):t=s:=by obtain⟨rfl,e⟩:=T.tN i a j d e;apply yQ;intro b;obtain⟨c,hc,g,_⟩:=T.child a d o _ t (dK _) i e b;obtain⟨p,n,m,h,_⟩:=T.pr hc (by rw[g];exact T.pos a);rw[T.id n a (m.trans g),q] at h;cases h
end
section
def TI.ag3(T:TI f top M){s:cR}(h:s.cT=0)(b:Nat):¬Up M s b:=λ⟨p,hp,e,_⟩=>T.pos hp (e.trans h)
theorem TI.add(T:TI f top M){s:cR}(z:s.cW=false)(r:s.id≠0)(v:∀t,M t->t.id≠s.id/\t.cT≠s.id)(w:s.cT≠s.id)(o:s.cO=[])
 (h:(s.cT=0/\∀k,f s.cz k=cH)∨∃p,M p/\p.cW=true/\p.id=s.cT/\s.cz=p.cz):TI f top (λt=>M t∨t=s):=by
 have up:∀t b,Up M t b->Up (λt=>M t∨t=s) t b:=λt b ⟨p,a,h⟩=>⟨p,.inl a,h⟩;have j:∀k,f s.cz k≠cH->∃p,M p/\p.cW=true/\p.id=s.cT/\s.cz=p.cz/\(f s.cz k).2.1<=p.cA:=λk n=>by rcases h with⟨_,h⟩|⟨p,a,c,d,g⟩;grind;have:=T.bt a (k:=k) iG;unfold Cv at this;grind
 refine⟨?_,?_,?_,?_,?_,?_,?_,?_,?_,?_⟩;rintro x y (hx|rfl) (hy|rfl) e;exact T.id hx hy e;grind;grind;rfl;rintro x (hx|rfl);exact T.pos hx;exact r;rintro x (hx|rfl) hs;exact T.st hx hs;grind;rintro x k (hx|rfl) n;exact T.bt hx n;obtain⟨p,a,c,d,g,m⟩:=j k n;have:=T.bt a (k:=k) iG;rw[<-g] at this;have:=T.st a c;grind[Cv];rintro x y k l (hx|rfl) (hy|rfl) c d e;exact T.tN hx hy c d e;obtain⟨p,a,_,_,g,_⟩:=j l d;rw[g] at d e|-;exact T.tN hx a c d e;obtain⟨p,a,_,_,g,_⟩:=j k c;rw[g] at c e|-;exact T.tN a hy c d e;obtain⟨p,a,_,_,g,_⟩:=j k c;rw[g] at c d e|-;exact T.tN a a c d e;rintro x y k (hx|rfl) (hy|rfl) hne e c;exact(T.E' hx hy hne e c).imp (up _ _) (up _ _);grind[Up];grind[Up];grind;rintro x (hx|rfl) c;obtain⟨p,a,h⟩:=T.pr hx c;grind;rcases h with⟨h,_⟩|⟨p,a,d,g,m⟩;omega;refine⟨p,.inl a,g,d,?_⟩;have:=T.st a d;grind[Cv];rintro x p k (hx|rfl) (a|rfl) e c d;exact T.iV hx a e c d;grind;obtain⟨u,i,_,g,m,_⟩:=j k c;rw[T.id a i (e.trans g.symm),m];rfl;rintro x p q (hx|rfl) (a|rfl) e;exact T.cO hx a e;grind;rw[o];rcases h with⟨h,_⟩|⟨u,i,d,g,m⟩;exact absurd (e.trans h) (T.pos a);obtain rfl:=T.id a i (e.trans g.symm);rw[m];simp;grind;rintro x (hx|rfl) c;exact T.wy hx c;exact o
def AsP(g:cR->Nat)(M:cR->Prop):cR->Prop:=λt=>∃s,M s/\t= {s with cG:=g s}
def TI.ag4(T:TI f top M)(g:cR->Nat):TI f top (AsP g M):=by have up:∀s b,Up M s b->Up (AsP g M) {s with cG:=g s} b:=λs b ⟨p,j,h⟩=>⟨_,⟨p,j,ae⟩,h⟩;refine⟨?_,?_,?_,?_,?_,?_,?_,?_,?_,?_⟩;rintro _ _ ⟨x,a,rfl⟩ ⟨y,c,rfl⟩ e;rw[T.id a c e];rintro _ ⟨x,a,rfl⟩;exact(T.pos a:);rintro _ ⟨x,a,rfl⟩;exact(T.st a:);rintro _ k ⟨x,a,rfl⟩;exact(T.bt a:);rintro _ _ k l ⟨x,a,rfl⟩ ⟨y,c,rfl⟩;exact(T.tN a c:);rintro _ _ k ⟨x,a,rfl⟩ ⟨y,c,rfl⟩ i e d;exact(T.E' a c (λe=>i (by rw[e])) e d).imp (up _ _) (up _ _);rintro _ ⟨x,a,rfl⟩ d;obtain⟨p,j,h⟩:=T.pr a d;exact⟨_,⟨p,j,ae⟩,h⟩;rintro _ _ k ⟨x,a,rfl⟩ ⟨y,c,rfl⟩;exact(T.iV a c:);rintro _ _ k ⟨x,a,rfl⟩ ⟨y,c,rfl⟩;exact(T.cO a c:);rintro _ ⟨x,a,rfl⟩;exact(T.wy a:)
def nX(s:cR)(M:cR->Prop):cR->Prop:=λt=>M t/\t≠s
theorem TI.jk(T:TI f top M){s:cR}(k:M s)(hc:∀t,M t->t.cT≠s.id):TI f top (nX s M):=by have up:∀t b,M t->Up M t b->Up (nX s M) t b:=λt b ht ⟨p,i,e,h⟩=>⟨p,⟨i,λj=>hc t ht (by rw[<-e,j])⟩,e,h⟩;refine⟨λa c=>T.id a.1 c.1,λa=>T.pos a.1,λa=>T.st a.1,λa=>T.bt a.1,λa c=>T.tN a.1 c.1,λa c g e d=>(T.E' a.1 c.1 g e d).imp (up _ _ a.1) (up _ _ c.1),?_,λa c=>T.iV a.1 c.1,λa c=>T.cO a.1 c.1,λa=>T.wy a.1⟩;intro x a d;obtain⟨p,i,e,h⟩:=T.pr a.1 d;grind[nX]
end
section
def oR(v v':cR)(M:cR->Prop):cR->Prop:=λt=>nX v M t∨t=v'
structure ade(f g:cy->Nat->cy)(top:Nat)(M:cR->Prop)(v v':cR):Prop where
 jA:v.cW=false
 eq:v'.id=v.id/\v'.cT=v.cT/\v'.cW=v.cW
 same:∀t,M t->t≠v->∀k,g t.cz k=f t.cz k
 new:∀k,g v'.cz k=cH∨g v'.cz k=f v.cz k∨(∃p,M p/\p.id=v.cT/\g v'.cz k=f p.cz k)∨((g v'.cz k).2.1=top/\¬Re f M (g v'.cz k).1/\∀l,g v'.cz l≠cH->(g v'.cz k).1=(g v'.cz l).1->k=l)
 cO:∀p q,M p->p.id=v.cT->(q∈v'.cO↔q≠cH/\∃k,f p.cz k=q/\g v'.cz k≠q)
 wy:v.cT=0->v'.cO=[]
theorem TI.om(T:TI f top M){p:cR}(h:M v)(b:M p)(e:p.id=v.cT):p.cW=true/\p.cA<Cv top v/\p≠v:=by obtain⟨j,a,c,d,g⟩:=T.pr h (by rw[<-e];exact T.pos b);obtain rfl:=T.id b a (e.trans c.symm);refine⟨d,g,λi=>?_⟩;simp_all[Cv]
theorem TI.adf(T:TI f top M)(u:1<=top)(j:M v)(C:ade f g top M v v'):TI g top (oR v v' M):=by
 have s:Cv top v'=top:=by unfold Cv;rw[C.eq.2.2,C.jA];rfl
 have up:∀t b,M t->Up M t b->Up (oR v v' M) t b:=λt b h ⟨p,a,e,m⟩=>by by_cases n:p=v;have:=(T.om h a e).1;rw[n,C.jA] at this;cases this;exact⟨p,.inl ⟨a,n⟩,e,m⟩
 have r:∀b,Up M v b->Up (oR v v' M) v' b:=λb h=>by obtain⟨p,a,e,m⟩:=up v b j h;exact⟨p,a,by rw[C.eq.2.1];exact e,m⟩
 have w:∀p k,M p->p.id=v.cT->f p.cz k≠cH->(f p.cz k).2.1<=p.cA/\p.cA<top:=λp k a e h=>by have c:=(T.om j a e).1;have:=T.bt a h;unfold Cv at this;rw[cL c] at this;exact⟨this.2,T.st a c⟩
 have ne:∀t,M t->t.id=v.id->t=v:=λt h e=>T.id h j e;refine⟨?_,?_,?_,?_,?_,?_,?_,?_,?_,?_⟩;rintro x y (hx|rfl) (d|rfl) e;exact T.id hx.1 d.1 e;exact absurd (ne x hx.1 (e.trans C.eq.1)) hx.2;exact absurd (ne y d.1 (e.symm.trans C.eq.1)) d.2;rfl;rintro x (hx|rfl);exact T.pos hx.1;rw[C.eq.1];exact T.pos j;rintro x (hx|rfl) hs;exact T.st hx.1 hs;rw[C.eq.2.2,C.jA] at hs;cases hs;rintro x k (hx|rfl) hk;rw[C.same x hx.1 hx.2] at hk|-;exact T.bt hx.1 hk;rw[s];rcases C.new k with h|h|⟨p,a,e,h⟩|h;grind;rw[h] at hk|-;have:=T.bt j hk;unfold Cv at this;rw[C.jA] at this;exact this;rw[h] at hk|-;have:=T.bt a hk;grind;omega;(have o:∀y k l,nX v M y->g v'.cz k≠cH->g y.cz l≠cH->(g v'.cz k).1=(g y.cz l).1->k=l/\g v'.cz k=g y.cz l:=by intro y k l d c i e;rw[C.same y d.1 d.2] at i e|-;rcases C.new k with h|h|⟨p,a,_,h⟩|h;grind;rw[h] at c e|-;exact T.tN j d.1 c i e;rw[h] at c e|-;exact T.tN a d.1 c i e;exact absurd ⟨y,l,d.1,i,e.symm⟩ h.2.1);rintro x y k l (hx|rfl) (d|rfl) c i e;rw[C.same x hx.1 hx.2] at c e|-;rw[C.same y d.1 d.2] at i e|-;exact T.tN hx.1 d.1 c i e;grind;grind;rcases C.new k with h|h|⟨p,a,_,h⟩|h;grind;rcases C.new l with m|m|⟨p',hp',_,m⟩|m;grind;rw[h] at c e|-;rw[m] at i e|-;exact T.tN j j c i e;rw[h] at c e|-;rw[m] at i e|-;exact T.tN j hp' c i e;grind;rcases C.new l with m|m|⟨p',hp',_,m⟩|m;grind;rw[h] at c e|-;rw[m] at i e|-;exact T.tN a j c i e;rw[h] at c e|-;rw[m] at i e|-;exact T.tN a hp' c i e;grind;grind;(have o:∀y k,nX v M y->g v'.cz k=g y.cz k->g v'.cz k≠cH->Up (oR v v' M) v' (g v'.cz k).2.1∨Up (oR v v' M) y (g v'.cz k).2.1:=by intro y k d e c;rw[C.same y d.1 d.2] at e;rcases C.new k with h|h|⟨p,a,n,h⟩|h;grind;rw[h] at e c|-;exact(T.E' j d.1 (oU d.2) e c).imp (r _) (up _ _ d.1);grind[Up];exact absurd ⟨y,k,d.1,by grind,by rw[<-e]⟩ h.2.1);rintro x y k (hx|rfl) (d|rfl) hne e c;rw[C.same x hx.1 hx.2] at c e|-;rw[C.same y d.1 d.2] at e;exact(T.E' hx.1 d.1 hne e c).imp (up _ _ hx.1) (up _ _ d.1);grind;grind;grind;rintro x (hx|rfl) c;obtain⟨p,a,e,h⟩:=T.pr hx.1 c;exact⟨p,.inl ⟨a,λn=>by rw[n,C.jA] at h;cases h.1⟩,e,h⟩;rw[C.eq.2.1] at c|-;obtain⟨p,a,e,h⟩:=T.pr j c;exact⟨p,.inl ⟨a,λn=>by rw[n,C.jA] at h;cases h.1⟩,e,h.1,by rw[s];exact T.st a h.1⟩;rintro x p k (hx|rfl) (a|rfl) e c i;rw[C.same x hx.1 hx.2] at c i|-;rw[C.same p a.1 a.2];exact T.iV hx.1 a.1 e c i;have:=(T.om hx.1 j (by rw[<-C.eq.1];exact e)).1;rw[C.jA] at this;cases this;rw[C.eq.2.1] at e;rw[C.same p a.1 a.2];rcases C.new k with h|h|⟨p',hp',n,h⟩|h;grind;rw[h] at c i|-;exact T.iV j a.1 e c i;rw[h,T.id a.1 hp' (e.trans n.symm)];have:=T.om j a.1 e;have:=T.st a.1 this.1;omega;rfl;rintro x p q (hx|rfl) (a|rfl) e;rw[T.cO hx.1 a.1 e];simp only[C.same x hx.1 hx.2,C.same p a.1 a.2];have:=(T.om hx.1 j (by rw[<-C.eq.1];exact e)).1;rw[C.jA] at this;cases this;rw[C.eq.2.1] at e;rw[C.cO p q a.1 e];simp only[C.same p a.1 a.2];rw[C.eq.2.1,C.eq.1] at e;exact absurd ae (T.om j j e).2.2;rintro x (hx|rfl) c;exact T.wy hx.1 c;exact C.wy (by rw[<-C.eq.2.1];exact c)
def afl(f g:cy->Nat->cy)(M:cR->Prop)(v:cR)(r:cy)(q:cy):Prop:=q≠cH/\∃k,f v.cz k=q/\g r k≠q/\¬Up M v q.2.1
def TI.OU(T:TI f top M)(c:M v)(C:ade f g top M v v')(h:afl f g M v v'.cz q):¬Re g (oR v v' M) q.1:=by obtain⟨d,k,rfl,m,j⟩:=h;rintro⟨t,l,i|rfl,a,b⟩;rw[C.same t i.1 i.2] at a b;exact i.2 (T.alone c C.jA d j i.1 a b);rcases C.new l with h|h|⟨p,hp,e,h⟩|h;exact a h;rw[h] at a b;obtain⟨rfl,_⟩:=T.tN c c a d b;exact m h;rw[h] at a b;exact(T.om c hp e).2.2 (T.alone c C.jA d j hp a b);exact h.2.1 ⟨v,k,c,d,b.symm⟩
theorem TI.OV(T:TI f top M)(s:M v)(C:ade f g top M v v')(h:Re f M a)(o:∀q,afl f g M v v'.cz q->q.1≠a):Re g (oR v v' M) a:=by obtain⟨t,k,c,d,rfl⟩:=h;have i:∀t,M t->t≠v->f t.cz k≠cH->Re g (oR v v' M) (f t.cz k).1:=λt c b d=>⟨t,k,.inl ⟨c,b⟩,by rw[C.same t c b];exact d,by rw[C.same t c b]⟩;by_cases e:t=v;subst e;by_cases j:g v'.cz k=f t.cz k;exact⟨v',k,.inr ae,by grind,by rw[j]⟩;by_cases l:Up M t (f t.cz k).2.1;obtain⟨p,r,e,m,_,n⟩:=T.up c d l;rw[<-n];exact i p r (λe=>by rw[e,C.jA] at m;cases m) iG;exact absurd ae (o _ ⟨d,k,ae,j,l⟩);grind
end
section
theorem ag5{s:cR}(h:s.cW=true->s.cA<top):Cv top s<=Cv (top+1) s:=by grind[Cv]
theorem TI.later(T:TI f top M):TI f (top+1) M:=
 ⟨T.id,T.pos,λh e=>lt_succ_of_lt (T.st h e),λh e=>⟨(T.bt h e).1,gO (T.bt h e).2 (ag5 (T.st h))⟩,T.tN,T.E',
  λh e=>by obtain⟨p,a,b,c,d⟩:=T.pr h e;grind[Cv],T.iV,T.cO,T.wy⟩
theorem TI.cW(T:TI f top M)(L:1<=top)(a:M v)(jA:v.cW=false)(F:sn.id≠0)(j:∀t,M t->t.id≠sn.id/\t.cT≠sn.id)(e:sn.cW=true/\sn.cA=top/\sn.cT=v.cT/\sn.cz=v.cz/\sn.cO=v.cO)(D:v'.id=v.id/\v'.cW=false/\v'.cT=sn.id/\v'.cz=v.cz/\v'.cO=[]):
 TI f (top+1) (λt=>oR v v' M t∨t=sn):=by
 obtain⟨B,H,s,m,A⟩:=e;obtain⟨n,I,u,w,C⟩:=D;have r:=T.later;have J:∀k,f v.cz k≠cH->(f v.cz k).2.1<=top:=λk h=>by have:=(T.bt a h).2;grind[Cv]
 have up:∀t b,M t->Up M t b->∃p,nX v M p/\p.id=t.cT/\b<=p.cA:=λt b h ⟨p,g,e,E⟩=>by by_cases K:p=v;have:=(T.om h g e).1;grind;grind[nX]
 have i:∀t b,M t->Up M t b->Up (λt=>oR v v' M t∨t=sn) t b:=λt b h E=>by grind[Up,oR]
 have G:∀k,f v.cz k≠cH->Up (λt=>oR v v' M t∨t=sn) v' (f v.cz k).2.1:=λk h=>⟨sn,.inr ae,u.symm,by grind⟩;have o:∀b,Up M v b->Up (λt=>oR v v' M t∨t=sn) sn b:=λb h=>by grind[Up]
 have z:∀t,M t->t.cT≠v.id:=λt h e=>by have:=(T.om h a e.symm).1;grind
 refine⟨?_,?_,?_,?_,?_,?_,?_,?_,?_,?_⟩;rintro x y ((hx|rfl)|rfl) ((hy|rfl)|rfl) e;exact T.id hx.1 hy.1 e;exact absurd (T.id hx.1 a (e.trans n)) hx.2;exact absurd e (j x hx.1).1;exact absurd (T.id hy.1 a (e.symm.trans n)) hy.2;rfl;grind;exact absurd e.symm (j y hy.1).1;grind;rfl;rintro x ((hx|rfl)|rfl);exact T.pos hx.1;rw[n];exact T.pos a;exact F;rintro x ((hx|rfl)|rfl) h;exact r.st hx.1 h;grind;omega;rintro x k ((hx|rfl)|rfl) h;exact r.bt hx.1 h;rw[w] at h|-;have:=r.bt a h;grind[Cv];rw[m] at h|-;refine⟨(T.bt a h).1,?_⟩;simp_all[Cv];rintro x y k l ((hx|rfl)|rfl) ((hy|rfl)|rfl)<;>(try simp only[m,w])<;>first|exact T.tN hx.1 hy.1|exact T.tN hx.1 a|exact T.tN a hy.1|exact T.tN a a
 (rintro x y k ((hx|rfl)|rfl) ((hy|rfl)|rfl) hne e h<;>try simp only[m,w] at e h|-);exact(T.E' hx.1 hy.1 hne e h).imp (i _ _ hx.1) (i _ _ hy.1);grind;exact(T.E' hx.1 a hx.2 e h).imp (i _ _ hx.1) (o _);grind;grind;grind;exact(T.E' a hy.1 (oU hy.2) e h).imp (o _) (i _ _ hy.1);grind;grind;rintro x ((hx|rfl)|rfl) h;obtain⟨p,g,c,d⟩:=r.pr hx.1 h;exact⟨p,.inl (.inl ⟨g,λe=>z x hx.1 (by rw[<-c,e])⟩),c,d⟩;exact⟨sn,.inr ae,u.symm,B,by simp_all[Cv]⟩;rw[s] at h;obtain⟨p,g,c,d,d2⟩:=T.pr a h;refine⟨p,.inl (.inl ⟨g,λe=>z v a (by rw[<-c,e])⟩),c.trans s.symm,d,?_⟩;simp_all[Cv];(rintro x p k ((hx|rfl)|rfl) ((g|rfl)|rfl) e h h2<;>try simp only[s,m,n,u,w] at e h h2|-);exact T.iV hx.1 g.1 e h h2;exact absurd e.symm (z x hx.1);exact absurd e.symm (j x hx.1).2;exact absurd e (j p g.1).1;exact T.iV a g.1 e h h2;(rintro x p q ((hx|rfl)|rfl) ((g|rfl)|rfl) e<;>try simp only[s,n,u] at e|-);exact T.cO hx.1 g.1 e;exact absurd e.symm (z x hx.1);exact absurd e.symm (j x hx.1).2;exact absurd e (j p g.1).1;grind;grind;rw[A,m];exact T.cO a g.1 e;grind;grind;rintro x ((hx|rfl)|rfl) h;exact T.wy hx.1 h;rw[C];rw[A];exact T.wy a cw
theorem afm(g:M v)(e:sn.cz=v.cz)(d:v'.cz=v.cz)(a:Nat):Re f (λt=>oR v v' M t∨t=sn) a↔Re f M a:=by constructor;rintro⟨t,k,(b|rfl)|rfl,h⟩;exact⟨t,k,b.1,h⟩;grind[Re];grind[Re];rintro⟨t,k,b,h⟩;by_cases c:t=v;subst c;exact⟨sn,k,.inr ae,by grind⟩;exact⟨t,k,.inl (.inl ⟨b,c⟩),h⟩
theorem TI.cut(T:TI f top M){s:cR}(m:M s)(B:s.cW=true)(g:M j)(o:j.cT=s.id)(hc:∀t,M t->t.cT=s.id->t=j)(e:j'.id=j.id/\j'.cW=j.cW/\j'.cA=j.cA/\j'.cT=s.cT/\j'.cz=j.cz)(K:∀q,q∈j'.cO↔(q∈j.cO/\Up M s q.2.1)∨q∈s.cO):
 TI f top (oR j j' (nX s M)):=by
 obtain⟨D,Q,J,E,A⟩:=e;have Z:=T.om g m o.symm;have L:Cv top j'=Cv top j:=by grind[Cv]
 have N:∀p,M p->p≠s->∃w,oR j j' (nX s M) w/\w.id=p.id/\w.cW=p.cW/\w.cA=p.cA/\w.cz=p.cz:=λp a h=>by by_cases F:p=j;subst F;exact⟨j',.inr ae,D,Q,J,A⟩;exact⟨p,.inl ⟨⟨a,h⟩,F⟩,ae,ae,ae,ae⟩
 have up:∀t b,M t->t≠j->Up M t b->Up (oR j j' (nX s M)) t b:=λt b h hne ⟨p,a,e,h'⟩=>by obtain⟨w,u,c,_,d,_⟩:=N p a λF=>hne (hc t h (by rw[<-e,F]));grind[Up]
 have I:∀b,Up M s b->Up (oR j j' (nX s M)) j' b:=λb ⟨p,a,e,h'⟩=>by grind[Up]
 have O:∀p k,M p->p.id=s.cT->f p.cz k≠cH->(f p.cz k).2.1<=p.cA/\p.cA<s.cA:=λp k a e h=>by have n:=T.om m a e;have:=T.bt a h;simp_all[Cv]
 refine⟨?_,?_,?_,?_,?_,?_,?_,?_,?_,?_⟩;rintro x y (hx|rfl) (i|rfl) e;exact T.id hx.1.1 i.1.1 e;exact absurd (T.id hx.1.1 g (e.trans D)) hx.2;exact absurd (T.id i.1.1 g (e.symm.trans D)) i.2;rfl;rintro x (hx|rfl);exact T.pos hx.1.1;rw[D];exact T.pos g;rintro x (hx|rfl) h;exact T.st hx.1.1 h;rw[J];exact T.st g iG;rintro x k (hx|rfl) h;exact T.bt hx.1.1 h;rw[A] at h|-;rw[L];exact T.bt g h;rintro x y k l (hx|rfl) (i|rfl)<;>(try simp only[A])<;>first|exact T.tN hx.1.1 i.1.1|exact T.tN hx.1.1 g|exact T.tN g i.1.1|exact T.tN g g
 (have v:∀y k,nX j (nX s M) y->f j.cz k=f y.cz k->f j.cz k≠cH->Up (oR j j' (nX s M)) j' (f j.cz k).2.1∨Up (oR j j' (nX s M)) y (f j.cz k).2.1:=by intro y k i e h;rcases T.E' g i.1.1 (oU i.2) e h with n|n;(have G:f s.cz k=f j.cz k:=by obtain⟨p,a,c,_,_,d⟩:=T.up g h n;rw[<-d,T.id a m (c.trans o)]);rw[<-G] at e h|-;exact(T.E' m i.1.1 (oU i.1.2) e h).imp (I _) (up _ _ i.1.1 i.2);grind[nX]);rintro x y k (hx|rfl) (i|rfl) hne e h;exact(T.E' hx.1.1 i.1.1 hne e h).imp (up _ _ hx.1.1 hx.2) (up _ _ i.1.1 i.2);grind;grind;grind;rintro x (hx|rfl) h;obtain⟨p,a,c,d,d2⟩:=T.pr hx.1.1 h;grind[oR,nX];rw[E] at h|-;obtain⟨p,a,c,d,d2⟩:=T.pr m h;obtain⟨w,u,R,U,V,_⟩:=N p a (T.om m a c).2.2;refine⟨w,u,R.trans c,U.trans d,?_⟩;rw[V,L];unfold Cv at d2 Z;rw[cL B] at d2;grind[Cv];(have v:∀p k,M p->p.id=s.cT->f j.cz k≠cH->(f j.cz k).2.1<=p.cA->f p.cz k=f j.cz k:=by intro p k a e h z;have C:=T.om m a e;unfold Cv at C;rw[cL B] at C;have G:=T.iV g m o.symm h cw;rw[<-G] at h z|-;exact T.iV m a e h z);rintro x p k (hx|rfl) (a|rfl) e h z;exact T.iV hx.1.1 a.1.1 e h z;rw[A];exact T.iV hx.1.1 g cw h cw;rw[E] at e;rw[A] at h z|-;exact v p k a.1.1 e h z;rfl;(have v:∀p,M p->p.id=s.cT->∀q,q∈j'.cO↔q≠cH/\∃k,f p.cz k=q/\f j.cz k≠q:=by intro p a e q;rw[K,T.cO g m o.symm,T.cO m a e];have C:=T.om m a e;unfold Cv at C;rw[cL B] at C;constructor;rintro(⟨⟨r,k,rfl,n⟩,z⟩|⟨r,k,rfl,n⟩);obtain⟨w,u,X,_,_,d⟩:=T.up m r z;obtain rfl:=T.id a u (e.trans X.symm);grind;refine⟨r,k,ae,λH=>n ?_⟩;have:=O p k a e r;rw[<-H] at r this|-;exact T.iV g m o.symm r cw;rintro⟨r,k,rfl,n⟩;by_cases H:f s.cz k=f p.cz k;exact .inl ⟨⟨r,k,H,n⟩,p,a,e,(O p k a e r).1⟩;grind);rintro x p q (hx|rfl) (a|rfl) e;exact T.cO hx.1.1 a.1.1 e;rw[A];exact T.cO hx.1.1 g cw;rw[E] at e;rw[A];exact v p a.1.1 e q;grind;rintro x (hx|rfl) h;exact T.wy hx.1.1 h;apply List.eq_nil_iff_forall_not_mem.2;intro q Y;rw[E] at h;rcases(K q).1 Y with⟨_,n⟩|n;exact T.ag3 h _ n;rw[T.wy m h] at n;cases n
theorem TI.adg(T:TI f top M){s:cR}(i:M s)(v:M j)(g:j.cT=s.id)(hc:∀t,M t->t.cT=s.id->t=j)(e:j'.cz=j.cz)(w:q∈j.cO)(x:¬Up M s q.2.1):¬Re f (oR j j' (nX s M)) q.1:=by
 obtain⟨n,k,rfl,y⟩:=(T.cO v i g.symm).1 w;have m:∀t l,M t->t≠s->f t.cz l≠cH->(f t.cz l).1=(f s.cz k).1->False:=by intro t l a h b d;obtain⟨rfl,o⟩:=T.tN a i b n d;obtain⟨c,p,r,u⟩:=T.child i n x _ t (dK _) a o h;grind
 rintro⟨t,l,a|rfl,b,d⟩;exact m t l a.1.1 a.1.2 b d;grind
theorem TI.adh(T:TI f top M){s:cR}(w:M s)(v:M j)(i:j.cT=s.id)(e:j'.cz=j.cz)(h:Re f M a)(y:∀q,q∈j.cO->¬Up M s q.2.1->q.1≠a):Re f (oR j j' (nX s M)) a:=by
 obtain⟨t,k,g,c,rfl⟩:=h;have m:∀t,M t->t≠s->f t.cz k≠cH->Re f (oR j j' (nX s M)) (f t.cz k).1:=λt g l c=>by by_cases b:t=j;subst b;exact⟨j',k,.inr ae,by grind,by rw[e]⟩;exact⟨t,k,.inl ⟨⟨g,l⟩,b⟩,c,ae⟩
 by_cases b:t=s;subst b;by_cases r:f j.cz k=f t.cz k;grind[Re,oR];have x:=(T.cO v w i.symm).2 ⟨c,k,ae,r⟩;by_cases u:Up M t (f t.cz k).2.1;obtain⟨p,n,o,_,_,d⟩:=T.up g c u;rw[<-d];exact m p n (T.om g n o).2.2 iG;grind;grind
end
def Bu(l:List cR):Prop:=l.Pairwise λa b=>a.id<b.id
theorem jO{l:List cR}{k:Nat}(h:k<l.length):di l k∈l/\l[k]?=some (di l k):=by grind[di]
theorem lq{l:List cR}{id k:Nat}(h:eu l id=some k):k<l.length/\di l k∈l/\(di l k).id=id:=by grind[eu,findIdx?_eq_some_iff_getElem,jO]
theorem Mg{id:Nat}(h:eu l id=none){s:cR}(a:s∈l):s.id≠id:=by grind[eu]
theorem Bu.inj(h:Bu l){s t:cR}(a:s∈l)(b:t∈l)(e:s.id=t.id):s=t:=by obtain⟨i,c,rfl⟩:=yk a;obtain⟨j,d,rfl⟩:=yk b;have h:=GY.1 h;grind
theorem Bu.at(h:Bu l){j:Nat}(c:i<l.length)(d:j<l.length)(e:di l i=di l j):i=j:=by
 have a:di l i=l[i]:=by grind[di]
 have b:di l j=l[j]:=by grind[di]
 rw[a,b] at e;have h:=GY.1 h;grind
def Bu.vF(h:Bu l){s:cR}(a:s∈l):∃k,eu l s.id=some k/\di l k=s:=by cases e:eu l s.id with|none=>exact absurd ae (Mg e a)|some k=>have:=lq e;exact⟨k,ae,h.inj this.2.1 a this.2.2⟩
theorem Bu.set(h:Bu l)(c:k<l.length)(s:cR):s∈l.set k y↔oR (di l k) y (·∈l) s:=by
 unfold oR nX;constructor;intro b;obtain⟨i,a,rfl⟩:=yk b;rw[getElem_set];split;grind;next hne=>(have a:i<l.length:=by grind);refine .inl ⟨lU _,λe=>hne ?_⟩;refine(h.at a c ?_).symm;grind[di]
 rintro(⟨b,hne⟩|rfl);obtain⟨i,a,rfl⟩:=yk b;have:i≠k:=λe=>hne (by grind[di]);exact xh.2 ⟨i,by grind,by grind⟩;grind[mem_iff_getElem]
theorem Bu.erase(h:Bu l)(c:k<l.length)(s:cR):s∈l.eraseIdx k↔nX (di l k) (·∈l) s:=by unfold nX;rw[mem_eraseIdx_iff_getElem];constructor;rintro⟨i,b,a,rfl⟩;refine⟨lU _,λe=>a ?_⟩;refine h.at b c ?_;grind[di];rintro⟨d,a⟩;obtain⟨i,b,rfl⟩:=yk d;exact⟨i,b,λe=>a (by grind[di]),ae⟩
theorem Bu.Gz(h:Bu l)(e:y.id=(di l k).id):Bu (l.set k y):=by by_cases f:k<l.length;(have a:di l k=l[k]:=by grind[di]);have h:=GY.1 h;refine GY.2 λi j c d b=>?_;grind;grind[set_eq_of_length_le]
def Bu.OW(h:Bu l)(k:Nat):Bu (l.eraseIdx k):=Pairwise.sublist (eraseIdx_sublist l k) h
theorem Bu.snoc(h:Bu l){s:cR}(a:∀t∈l,t.id<s.id):Bu (l++[s]):=by grind[Bu]
theorem Bu.map(h:Bu l){g:cR->cR}(a:∀s,(g s).id=s.id):Bu (l.map g):=by grind[Bu]
theorem adi(h:Bu l)(r:∀s∈l,s.id≠0){s:cR}(q:s∈l){b:Nat}(t:1<=b)(a:s.cT≠0->∃p∈l,p.id=s.cT):b<=eM l s.id↔Up (·∈l) s b:=by obtain⟨k,d,f⟩:=h.vF q;unfold eM Up;rw[d];simp only[f];split;grind;next e=>obtain⟨p,a,g⟩:=a e;obtain⟨j,i,m⟩:=h.vF a;rw[<-g,i];simp only[m];constructor;grind;rintro⟨u,c,n,o⟩;rwa [h.inj c a n] at o
structure Bt(next:Nat)(M:cR->Prop):Prop where
 id:∀{s t},M s->M t->s.id=t.id->s=t
 lt:∀{s},M s->1<=s.id/\s.id<next
 own:∀{s},M s->s.cW=true->∃v,M v/\v.cW=false/\v.id=s.cG
 nxt:∀{s},M s->s.cW=true->∃c,M c/\c.cT=s.id/\c.cG=s.cG
 one:∀{s c d},M s->s.cW=true->M c->M d->c.cT=s.id->d.cT=s.id->c.cG=s.cG->d.cG=s.cG->c=d
 jA:∀{s},M s->s.cW=false->s.cG=s.id
 name:∀{s t},M s->M t->dE s=dE t->s=t
 pr:∀{s},M s->s.cT≠0->∃p,M p/\p.id=s.cT/\p.cW=true/\(s.cW=true->p.cA<s.cA)
def aaa(s t:cR):Prop:=t.id=s.id/\t.cW=s.cW/\t.cG=s.cG/\t.cT=s.cT/\t.name=s.name/\t.cA=s.cA
theorem aaa.called{s t:cR}(h:aaa s t):dE t=dE s:=by obtain⟨_,a,b,_,c,_⟩:=h;grind[dE]
section
variable {n:Nat}{N:cR->Prop}
def Bt.aja(F:Bt n M)(h:∀t,N t->∃s,M s/\aaa s t)(g:∀s,M s->∃t,N t/\aaa s t)(x:∀s t,N s->N t->s.id=t.id->s=t):Bt n N:=by refine⟨fun {s t}=>x s t,?_,?_,?_,?_,?_,?_,?_⟩;intro t i;obtain⟨s,j,e⟩:=h t i;rw[e.1];exact F.lt j;intro t i f;obtain⟨s,j,e⟩:=h t i;obtain⟨v,A,a,b⟩:=F.own j bW;obtain⟨v',l,k⟩:=g v A;exact⟨v',l,k.2.1.trans a,k.1.trans (b.trans e.2.2.1.symm)⟩;intro t i f;obtain⟨s,j,e⟩:=h t i;obtain⟨v,A,a,b⟩:=F.nxt j bW;obtain⟨v',l,k⟩:=g v A;exact⟨v',l,k.2.2.2.1.trans (a.trans e.1.symm),k.2.2.1.trans (b.trans e.2.2.1.symm)⟩;intro t c d i f hc B m D E G;obtain⟨s,j,e⟩:=h t i;obtain⟨K,r,o⟩:=h c hc;obtain⟨d',w,q⟩:=h d B;have:=F.one j bW r w (o.2.2.2.1.symm.trans (m.trans e.1)) (q.2.2.2.1.symm.trans (D.trans e.1)) (o.2.2.1.symm.trans (E.trans e.2.2.1)) (q.2.2.1.symm.trans (G.trans e.2.2.1));exact x c d hc B (o.1.trans (this▸q.1.symm));intro t i f;obtain⟨s,j,e⟩:=h t i;rw[e.2.2.1,e.1];exact F.jA j bW;intro t u i C m;obtain⟨s,j,e⟩:=h t i;obtain⟨s',z,k⟩:=h u C;rw[e.called,k.called] at m;exact x t u i C (e.1.trans (F.name j z m▸k.1.symm));intro t i H;obtain⟨s,j,e⟩:=h t i;obtain⟨p,I,a,b,c⟩:=F.pr j (by rw[<-e.2.2.2.1];exact H);obtain⟨J,y,k⟩:=g p I;exact⟨J,y,k.1.trans (a.trans e.2.2.2.1.symm),k.2.1.trans b,λh=>by rw[k.2.2.2.2.2,e.2.2.2.2.2];exact c (by rw[<-e.2.1];exact h)⟩
theorem Bt.sub(F:Bt n M)(b:M v)(e:aaa v v'):Bt n (oR v v' M):=by refine F.aja ?_ ?_ ?_;rintro t (ht|rfl);exact⟨t,ht.1,ae,ae,ae,ae,ae,ae⟩;grind;intro s a;by_cases h:s=v;subst h;exact⟨v',.inr ae,e⟩;exact⟨s,.inl ⟨a,h⟩,ae,ae,ae,ae,ae,ae⟩;rintro s t (a|rfl) (ht|rfl) e1;exact F.id a.1 ht.1 e1;exact absurd (F.id a.1 b (e1.trans e.1)) a.2;exact absurd (F.id ht.1 b (e1.symm.trans e.1)) ht.2;rfl
theorem Bt.add(F:Bt n M){s:cR}(f:s.cW=false)(j:s.id=n)(i:1<=n)(ho:s.cG=n)(k:∀t,M t->dE t≠dE s)(g:s.cT≠0->∃p,M p/\p.id=s.cT/\p.cW=true):Bt (n+1) (λt=>M t∨t=s):=by
 have m:∀{t},M t->t.cT≠n:=fun {t} ht e=>by obtain⟨p,g,a,_⟩:=F.pr ht cw;have:=(F.lt g).2;omega
 have l:∀{t},M t->t.cW=true->t.cG≠n:=fun {t} ht hs e=>by obtain⟨v,f,_,b⟩:=F.own ht hs;have:=(F.lt f).2;omega
 refine⟨?_,?_,?_,?_,?_,?_,?_,?_⟩;rintro x y (hx|rfl) (hy|rfl) e;exact F.id hx hy e;have:=(F.lt hx).2;omega;have:=(F.lt hy).2;omega;rfl;rintro x (hx|rfl);have:=F.lt hx;omega;omega;rintro x (hx|rfl) h;obtain⟨v,f,h⟩:=F.own hx h;grind;grind;rintro x (hx|rfl) h;obtain⟨v,f,h⟩:=F.nxt hx h;grind;grind
 . rintro x c d (hx|rfl) h (hc|rfl) (hd|rfl) e1 e2 e3 e4;exact F.one hx h hc hd e1 e2 e3 e4;grind;grind;rfl;all_goals grind
 rintro x (hx|rfl) h;exact F.jA hx h;omega;rintro x y (hx|rfl) (hy|rfl) e;exact F.name hx hy e;grind;grind;rfl;rintro x (hx|rfl) h;obtain⟨p,g,h⟩:=F.pr hx h;grind;grind
theorem Bt.cW(F:Bt n M)(f:M v)(jA:v.cW=false)(B:∀p,M p->p.id=v.cT->p.cA<sn.cA)(G:1<=n)(e:sn.cW=true/\sn.cT=v.cT/\sn.id=n/\sn.cG=v.id)(A:v'.id=v.id/\v'.cW=false/\v'.cT=n/\v'.cG=v.cG/\v'.name=v.name)(q:∀t,M t->dE t≠dE sn):
 Bt (n+1) (λt=>oR v v' M t∨t=sn):=by
 obtain⟨C,j,k,w⟩:=e;obtain⟨i,l,z,D,E⟩:=A;have r:∀{t},M t->t.cT≠n:=fun {t} ht e=>by obtain⟨p,g,a,_⟩:=F.pr ht cw;have:=(F.lt g).2;omega
 have H:v.cG=v.id:=F.jA f jA;have o:dE v'=dE v:=by grind[dE]
 have s:∀{t},M t->t.cT≠v.id:=fun {t} ht e=>by obtain⟨p,g,a,b,_⟩:=F.pr ht (by have:=F.lt f;omega);rw[F.id g f (a.trans e),jA] at b;cases b
 refine⟨?_,?_,?_,?_,?_,?_,?_,?_⟩;rintro x y ((hx|rfl)|rfl) ((hy|rfl)|rfl) e;exact F.id hx.1 hy.1 e;exact absurd (F.id hx.1 f (e.trans i)) hx.2;have:=(F.lt hx.1).2;omega;exact absurd (F.id hy.1 f (e.symm.trans i)) hy.2;rfl;have:=(F.lt f).2;omega;have:=(F.lt hy.1).2;omega;have:=(F.lt f).2;omega;rfl;rintro x ((hx|rfl)|rfl);have:=F.lt hx.1;omega;have:=F.lt f;omega;omega;rintro x ((hx|rfl)|rfl) h;obtain⟨u,m,c,d⟩:=F.own hx.1 h;by_cases e:u=v;subst e;exact⟨v',.inl au,l,i.trans d⟩;exact⟨u,.inl (.inl ⟨m,e⟩),c,d⟩;grind;exact⟨v',.inl au,l,i.trans w.symm⟩;rintro x ((hx|rfl)|rfl) h;obtain⟨u,m,c,d⟩:=F.nxt hx.1 h;by_cases e:u=v;grind;exact⟨u,.inl (.inl ⟨m,e⟩),c,d⟩;grind;exact⟨v',.inl au,z.trans k.symm,cw⟩;rintro x c d ((hx|rfl)|rfl) h ((hc|rfl)|rfl) ((hd|rfl)|rfl) e1 e2 e3 e4<;>first|rfl|exact F.one hx.1 h hc.1 hd.1 e1 e2 e3 e4|(rw[l] at h;cases h)|exact absurd (e2.trans k) (r hd.1)|exact absurd (e1.trans k) (r hc.1)|(have:=(F.lt hx.1).2;omega)|exact absurd (F.one hx.1 h hc.1 f e1 (j.symm.trans e2) e3 cw) hc.2|exact absurd (F.one hx.1 h hd.1 f e2 (j.symm.trans e1) e4 cw) hd.2|grind
 rintro x ((hx|rfl)|rfl) h;exact F.jA hx.1 h;omega;grind;rintro x y ((hx|rfl)|rfl) ((hy|rfl)|rfl) e;exact F.name hx.1 hy.1 e;rw[o] at e;exact absurd (F.name hx.1 f e) hx.2;exact absurd e (q x hx.1);rw[o] at e;exact absurd (F.name f hy.1 e).symm hy.2;rfl;grind;exact absurd e.symm (q y hy.1);grind;rfl;rintro x ((hx|rfl)|rfl) h;obtain⟨p,g,c⟩:=F.pr hx.1 h;exact⟨p,.inl (.inl ⟨g,λe=>s hx.1 iG⟩),c⟩;grind;rw[j] at h|-;obtain⟨p,g,c,d,_⟩:=F.pr f h;exact⟨p,.inl (.inl ⟨g,λe=>s f (by rw[<-c,e])⟩),c,d,λ_=>B p g c⟩
end