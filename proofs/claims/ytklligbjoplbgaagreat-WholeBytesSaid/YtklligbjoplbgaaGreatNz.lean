/- WholeBytes holds of the given program: whatever bytes are played, what the statement says of them is so. No conditions. -/
import Derived.Test.YtklligbjoplbgaaGreatNan
import Derived.Test.YtklligbjoplbgaaGreatRows
import Derived.ProofKit
import Derived.OpenShut
import Derived.ChangeOld
import Derived.Deep.Slices
import Derived.Deep.Strs
import Derived.SizedLaws
namespace Go.Proofs.YtklligbjoplbgaaGreat
set_option linter.all false
set_option maxRecDepth 100000
set_option maxHeartbeats 64000000
open Go.RowKit Lib List Nat _root_.Go.Proofs.Tryz Go.Shelf
variable {B:iw}{a:Act}{K:Act->aD->Prop}{af:Array Edge}{held:Bool}{Q:Exit->Act->aD->Prop}{x:GT}{bs:aK}{r:aK×Int}{X:aK->aD->Prop}{l:List Int}{O:List O4}{rest:List Oper}{L:List R4}{xs:List bh}{D N b base by' cap fuel i k n y z:Nat}{spare:Nat->Bool}{d o:Option Nat}{P:pw}{s:wu}{p:String}{T e t2:dD}{H:Type}{v:bh}{w w' w0:aD}
def Mj:bh->aK
 | .pointer (some a)=> [a.block]
 | _=> []
theorem L0 {d:Dv}(h:eU w D d): ∃l,ou w D d l:=by
 obtain⟨h0,sb,nb,pv,h1⟩:=h;exact⟨_,h0,sb,nb,pv,h1,rfl⟩
theorem OM (D:Nat)(d:Dv)(n:Int)(hn:bT n)(m:aK)(w:aD)(a:eU w D d):
 Calls prog 21 #[.pointer (some ⟨D,0,none⟩),.int .i64 n] w λe w'=>e=.returned (.tuple #[])/\eU w' D (zq d n)/\Fr (some D) m w w':=by
 obtain⟨l,hl⟩:=L0 a;exact(VN D d l n hn w hl).mono λe w' ⟨he,hs⟩=>⟨he,hs.shut,hs.fr hl m⟩
theorem ON (D:Nat)(d:Dv)(ho:d.ops<=1000000000)(v:bh)(bS:List Bool)(m:aK)(w:aD)(a:eU w D d)(hv:Cb w v bS):
 Calls prog 16 #[.pointer (some ⟨D,0,none⟩),v] w λe w'=>e=.returned (.tuple #[])/\eU w' D (qy d bS)/\Fr (some D) m w w':=by
 obtain⟨l,hl⟩:=L0 a;exact(VQ D d l ho v bS w hl hv).mono λe w' ⟨he,hs⟩=>⟨he,hs.shut,hs.fr hl m⟩
theorem UG (D:Nat)(d:Dv)(ho:d.ops<=1000000000)(i:Int)(s:aK)(hs:fa s)(A:iw)(hA:A=ah 128 (aw s))(m:aK)(w:aD)(a:eU w D d):
 Calls prog 138 #[.pointer (some ⟨D,0,none⟩),.int .i64 i,.agg A] w λe w'=>e=.returned (.int .i64 (uv d i s).2)/\eU w' D (uv d i s).1/\Fr (some D) m w w':=by
 obtain⟨l,hl⟩:=L0 a;exact(ZM D d l ho i s hs A hA w hl).mono λe w' ⟨he,hs⟩=>⟨he,hs.shut,hs.fr hl m⟩
theorem cY.asked {K:Nat}{d:Dv}(h:cY w K D x)(hd:eU w' D d)(f:Fr (some D) [] w w'):cY w' K D (asked x d):=by
 obtain⟨G,g,M,hp,he,hl⟩:=h;have hg:=hp.A7;refine⟨G,g,M,⟨ag.fr hp.row f (.inr rfl) (.inr fh),⟨ag.fr hg.row f (.inr rfl) (.inr fh),⟨ag.fr hg.ft.row f (.inr rfl) (.inr fh),hd,hg.ft.map.fr f fh,hg.ft.ok⟩,
  ⟨ar.fr hg.book.1 f (.inr rfl) rfl,λx hx=>ar.fr (hg.book.2 x hx) f (.inr rfl) rfl⟩,ar.fr (show ar w 106 3 g.hv g.held.length (eo g.held) from hg.held) f (.inr rfl) rfl⟩⟩,?_,hl⟩
 rw[<-he];rfl
theorem rB.put {d:Dv}(h:rB w D s v)(hd:eU w' D d)(f:Fr (some D) [] w w'):rB w' D (Kj s d) v:=by
 cases s with
 | inl d0=>exact⟨h.1,hd⟩
 | inr x=>obtain⟨K,e,h⟩:=h;exact⟨K,e,h.asked hd f⟩
theorem U2:prog.built 38 []=some zeroCells38:=cm
theorem GS (c:Int):prog.built 38 [(0,.int .i64 c)]=some (ah 129 (jQ (aX,c))):=cm
section
variable {ops:Array Oper}
variable {l:aK}{x:Nat}
theorem acs (S:St w0 d l L O X w)(k:Nat)(hk:L[k]? =some ⟨b,36,128,aw aX⟩){dT sT:dD}(R:eX w T v bs)(hu:P.underlying dT=some (.slice 5))(hsz: (P.info? 5).map (·.size)=some 1)(hd:a.eval (.tmp x)=.slice (some ⟨b,0,none⟩) 128 128)(hs:a.eval (.tmp y)=v)(h: ∀W n,St w0 d l (L.set k ⟨b,36,128,aw (sY (bs.take 128))⟩) O X W->K (a.put o n) W):
 Oper.wp P ⟨o,.call {callee:=.builtin .copy,args:=#[.tmp x,.tmp y],argTypes:=#[dT,sT]},t2,p,af,none⟩ a w K Q:=by
 obtain⟨⟨h1,ao,c,rfl,h2,h3,h4⟩,h5⟩:=R;by_cases h0:bs.length=0
 . obtain rfl:bs=[]:=Jp h0;have hrun:=run_copy_none (P:=P) w dT sT t2 5 (s_ b 0) ao 128 128 0 c hu hsz rfl;unfold Oper.wp;simp only[we] at hs;simp[execOp,resolve,invoke,builtin,hd,hs,hrun,Result.andThen];refine h _ _ ?_;exact S.ld hk λi hi=>by rfl
 . obtain⟨b',o',cs,fl,rfl,hh,hc⟩:=h4 au;have hmin: (bs.take 128).length=Nat.min bs.length 128:=by grind
   have hr:ag w b 36 128 (aw []):=by
    have h9:=S.ee hk;unfold ag at h9 ⊢;rw[h9,AB (b:=[])];rfl
   have hrun:=run_copy_row (P:=P) w dT sT t2 5 b 0 128 128 ⟨b',o',none⟩ bs.length c (ah 128 (aw [])) 36 (aQ (bs.take 128)) hu hsz hr (by grind[aQ])
    (λj u hj=>?_) (by grind[aQ,aj]) (λu hu=>by obtain⟨_,_,rfl⟩:=lY.1 hu;rfl)
   . unfold Oper.wp;simp[execOp,resolve,invoke,builtin,hd,hs,hrun,Result.andThen];refine h _ _ ?_;have hw:=pT [] (bs.take 128) rE;unfold splice at hw;have h9:=S.set hk (aw (sY (bs.take 128)));rw[<-AB (b:=bs.take 128)] at h9
     simp_all[aQ]
   . have hadd: (⟨b',o',none⟩:Addr).add j=⟨b',o'+j,none⟩:=by grind[Addr.add]
     grind[cell_of_row,aQ,map_take]
end
theorem rB.Y6 {K:Nat}(h:rB w D (.inr x) (.pointer (some ⟨K,0,none⟩))):cY w K D x:=by
 obtain⟨K',e,h⟩:=h
 grind
structure abD (s:wu):Prop where
 ops: (tu s).ops<=990000000
 ok: ∀x,s=.inr x->Bz x
def acu (w w':aD) (D:Nat) (v:bh) (r:wu×(aK×Int)) (e:Ending):Prop:=
 ∃B v',e=.returned (.tuple #[.agg B,v'])/\B=ah 129 (jQ r.2)/\rB w' D r.1 v'/\(∀k∈Mj v',k∈Mj v∨w.heap.size<=k)/\Fr (some D) (Mj v) w w'
theorem Si (D:Nat)(s:wu)(v:bh)(hs:abD s)(o:qw)(hop:EI o.toxH)(hda:q7 o)(ob p:Nat)(w:aD)(h:rB w D s v)(HO: ∀W,Fr (some D) (Mj v) w W->tS W ob p o/\XP o [] W):
 Calls prog 70 #[.pointer (some ⟨D,0,none⟩),v,.pointer (some ⟨ob,p,none⟩)] w λe w'=>acu w w' D v (mw s o.toxH) e:=by
 have CA:=ae λK x (e:s=.inr x) W hk (hv:v=bZ K 0) (hW:Fr (some D) (Mj v) w W) (X:cY W K D x)=>Y5 K D x (hs.ok x e) o hop hda hk ob p W X (λW2 f=>HO W2 (hW.trans (by rw[hv];exact f)));obtain⟨o,da,dc,ka,kc⟩:=o;have S:=St.start w (some D) (Mj v) (LZ D s v) h.x;have H0:Hid (∀W,Fr (some D) (Mj v) w W->W.cell? ⟨ob,p,none⟩=some (.int .i64 o.kind)):=ae λW f=>(HO W f).1.c0;have H3:Hid (∀W,Fr (some D) (Mj v) w W->W.cell? ⟨ob,p+3,none⟩=some (.int .i64 o.n)):=ae λW f=>(HO W f).1.c3;have H4:Hid (∀W,Fr (some D) (Mj v) w W->W.cell? ⟨ob,p+4,none⟩=some (.slice da o.data.length dc)):=ae λW f=>(HO W f).1.c4;have H5:Hid (∀W,Fr (some D) (Mj v) w W->W.cell? ⟨ob,p+5,none⟩=some (.slice ka o.bS.length kc)):=ae λW f=>(HO W f).1.c5;have HB:Hid (∀W,Fr (some D) (Mj v) w W->eX W 5 (.slice da o.data.length dc) o.data):=ae λW f=>⟨(HO W f).2.1.1,hda.2⟩;have HK:Hid (∀W,Fr (some D) (Mj v) w W->Cb W (.slice ka o.bS.length kc) o.bS):=ae λW f=>(HO W f).2.2.1;have hn:bT o.n:=by have:=hop.n;unfold bT;simp only at this;omega
 have hsec:fa (vC o):=ED (by rw[pM];omega) (λx hx=>hda.2 x (rD hx));have hkk:0<=o.kind/\o.kind<=12:=hop.kind;have hops:=hs.ops;obtain⟨T,HT⟩:=qI (mw s o);simp only[HT.o];have hkv: ∀k∈Mj v,k∈Mj v∨w.heap.size<=k:=λk h=>.inl h;have HKV:=ae hkv;have HV:=ae (show(∃d,s=.inl d/\v=.pointer none)∨∃x K,s=.inr x/\v=bZ K 0 from by
  cases s with
  | inl d=>exact .inl ⟨d,rfl,h.1⟩
  | inr x=>obtain⟨K,e,_⟩:=h;exact .inr ⟨x,K,rfl,e⟩)
 clear h HO hop hda hkv;by_cases h10:o.kind=10
 . rw[h10] at H0;obtain rfl: (Kj s (zq (tu s) o.n),(aX,(0:Int)))=T:=by rw[<-HT.o];unfold mw;rw[bC h10]
   have C:=ae λW a=>OM D (tu s) o.n hn [] W a;clear h10 hkk;go_enter func70,ntmps70
   go_wp2_with (first|(with_reducible first|refine jo 14 3 13 (H0.o _ S.fr) ?_|refine jo 21 3 20 (H3.o _ S.fr) ?_)|(go_at_call 21;refine(C.o _ S.x.at.dev).mono ?_;rintro e W ⟨rfl,hp,hf⟩;replace S:=S.Q8 (S.x.at.put hp hf) hf fh rE (by intro o ho;cases ho))|(refine o7 ?_;exact⟨_,v,rfl,rfl,S.x.at,HKV.o,S.fr⟩)|refine fN ?_|refine ew λW S=>?_)
 by_cases h11:o.kind=11
 . rw[h11] at H0;obtain⟨r,hr⟩:=cM (kK (qy (tu s) o.bS));have HT2:=ae (show(nU r,(aX,r.2))=T by rw[<-HT.o,<-hr];unfold mw;rw[bX h10,bC h11]);have C:=ae λW a b=>ON D (tu s) au (.slice ka o.bS.length kc) o.bS [] W a b;have C2:=ae λW a=>LX D (qy (tu s) o.bS) W a;rw[hr] at C2;obtain⟨x,c⟩:=r;simp only at C2;clear h10 h11 hkk hr HT;obtain⟨RR,HR⟩:=BU (ah 129 (jQ (aX,c)));go_enter func70,ntmps70;by_cases g2:c=0
   case neg=>
    have g3: (c != 0)=true:=lh.2 g2;obtain rfl: (.inl x.s.dv,(aX,c))=T:=by rw[<-HT2.o];unfold nU;rw[bX g2]
    have HC:=ae g2;clear g2 HT2
    go_wp2_with (first|(with_reducible first|refine jo 14 3 13 (H0.o _ S.fr) ?_|refine jo 31 39 30 (H5.o _ S.fr) ?_)|(go_at_call 16;refine(C.o _ S.x.at.dev (HK.o _ S.fr)).mono ?_;rintro e W ⟨rfl,hp,hf⟩;replace S:=S.Bt hf (λD e=>e) fh (dB D _) hp)|(go_at_call 17;refine(C2.o _ S.x).mono ?_;rintro e W ⟨u,rfl,hg,hf⟩;obtain⟨rfl,hd⟩:=hg.2 HC.o;replace S:=S.Q8 (s:=.inl x.s.dv) (v:=.pointer none) ⟨rfl,hd⟩ hf fh rE (by intro o ho;cases ho);clear hg hd)|((with_reducible refine aY 41 38 ?_);refine eW (cells:=RR) rfl (by rw[HR.o];exact GS _) ?_)|(refine o7 ?_;exact⟨_,(.pointer none),rfl,rfl,S.x.at,(by intro k hk;cases hk),S.fr⟩)|refine ew λW S=>?_)
   subst g2;obtain rfl: (.inr x,(aX,(0:Int)))=T:=by rw[<-HT2.o];rfl
   clear HT2
   go_wp2_with (first|(with_reducible first|refine jo 14 3 13 (H0.o _ S.fr) ?_|refine jo 31 39 30 (H5.o _ S.fr) ?_)|(go_at_call 16;refine(C.o _ S.x.at.dev (HK.o _ S.fr)).mono ?_;rintro e W ⟨rfl,hp,hf⟩;replace S:=S.Bt hf (λD e=>e) fh (dB D _) hp)|(go_at_call 17;refine(C2.o _ S.x).mono ?_;rintro e W ⟨u,rfl,hg,hf⟩;obtain⟨K,rfl,hK,hP⟩:=hg.1 rfl;have HKB:=ae (kL S.fr.size hK);replace S:=S.Q8 (s:=.inr x) (v:=bZ K 0) ⟨K,rfl,hP⟩ hf fh rE (by intro o ho;cases ho);clear hg hP)|(refine o7 ?_;exact⟨_,(bZ K 0),rfl,rfl,S.x.at,(by intro k hk;rw[gz.1 (show k∈ [K] from hk)];exact .inr HKB.o),S.fr⟩)|refine fN ?_|refine ew λW S=>?_)
 by_cases h12:o.kind=12
 . rw[h12] at H0;obtain⟨r,hr⟩:=cM (uv (tu s) o.n (vC o));obtain rfl: (Kj s r.1,(aX,r.2))=T:=by rw[<-HT.o,<-hr];unfold mw;rw[bX h10,bX h11,bC h12]
   obtain⟨A,hA⟩:=gq (ah 128 (aw (vC o)));have C:=ae λW a=>UG D (tu s) au o.n (vC o) hsec A hA [] W a;rw[hr] at C;obtain⟨dd,c⟩:=r;simp only at C ⊢;have HA:Hid (A=ah 128 (aw (sY (o.data.take 128)))):=ae hA;clear h10 h11 h12 hkk hr HT hA;obtain⟨RR,HR⟩:=BU (ah 129 (jQ (aX,c)));go_enter func70,ntmps70
   go_upto_region 13 with(first|(with_reducible refine jo 14 3 13 (H0.o _ S.fr) ?_)|((with_reducible refine dH 6 38 ?_);refine gD S OL jM rfl λW1 S=>?_)|refine ew λW S=>?_)
   refine bf S cm [] (by intro r hr;cases hr) λW S=>?_;refine bp 0 46 (.slice (s_ W1.heap.size 0) 128 128) ?_;refine bp 1 47 _ ?_;refine bp 2 48 (bZ ob p) ?_;refine bp 3 49 (bZ ob (p+4)) ?_;refine gY 4 50 (.slice da o.data.length dc) rfl (bP (λw h=>H4.o _ h.fr) rfl pe) ?_;refine mO 5 λK hK=>?_;refine acs S 0 rfl (HB.o _ S.fr) oC cm rfl rfl λW n S=>?_;refine gM hK ?_;refine uy ?_
   go_upto_region 14 with(fail)
   refine bf S cm [⟨W1.heap.size,36,128,aw (sY (o.data.take 128))⟩] L9 λW S=>?_;refine bp 0 52 _ ?_;refine bp 1 53 _ ?_;refine bp 2 54 (bZ ob p) ?_;refine bp 3 55 (bZ ob (p+3)) ?_;refine gY 4 56 (.int .i64 o.n) rfl (bP (λw h=>H3.o _ h.fr) rfl kX) ?_;refine gY 5 57 (.agg A) rfl (lq (b:=W1.heap.size) (t:=36) (n:=128) (f:=aw (sY (o.data.take 128))) (λw h=>h.row 0 rfl) rfl HA.o qk) ?_;refine bp 8 60 _ ?_;refine mO 6 λK hK=>?_
   go_wp2_with fail
   refine(C.o _ S.x.at.dev).mono ?_;rintro e W ⟨rfl,hp,hf⟩;replace S:=S.Q8 (S.x.at.put hp hf) hf fh rE (by intro o ho;cases ho);refine gM hK ?_;refine gY 7 59 (.agg RR) rfl (pf rfl (by rw[HR.o];exact GS _)) ?_;refine mO 9 λK hK=>?_;refine dL S 1 rfl rfl rfl HR.o Cw (jR _) λW S=>?_;refine gM hK ?_;refine bp 10 7 _ ?_;refine uy ?_
   go_wp2_with (refine o7 ?_;exact⟨_,v,rfl,rfl,S.x.at,HKV.o,S.fr⟩)
 have h9:o.kind<=9:=au;rcases HV.o with⟨d,rfl,rfl⟩ | ⟨x,K,rfl,rfl⟩;obtain rfl: (.inl d,(aX,(91:Int)))=T:=by rw[<-HT.o];unfold mw;rw[bX h10,bX h11,bX h12]
 obtain⟨RR,HR⟩:=BU (ah 129 (jQ (aX,91)))
 rotate_left
 obtain rfl: (.inr (sk x o).1,(sk x o).2)=T:=by rw[<-HT.o];unfold mw;rw[bX h10,bX h11,bX h12]
 have C:=ae λW=>CA.o K x rfl W h9 rfl;clear CA HT;obtain⟨r,hr⟩:=cM (sk x o);rw[hr] at C ⊢
 all_goals
  have h10': (o.kind==10)=false:=by rw[k'];exact h10
  have h11': (o.kind==11)=false:=by rw[k'];exact h11
  have h12': (o.kind==12)=false:=by rw[k'];exact h12
  first | clear h10 h11 h12 hkk h9 HT | clear h10 h11 h12 hkk h9 hr
  go_enter func70,ntmps70
  go_wp2_with (first|(with_reducible refine jo 14 3 13 (H0.o _ S.fr) ?_)|((with_reducible refine aY 63 38 ?_);refine eW (cells:=RR) rfl (by rw[HR.o];exact GS _) ?_)|(go_at_call 139;refine(C.o _ S.fr S.x.at.Y6).mono ?_;rintro e W ⟨B,rfl,hB,hp,hf⟩;have HB:=ae hB;replace S:=S.Q8 (s:=.inr r.1) (v:=bZ K 0) ⟨K,rfl,hp⟩ hf (λk hk=>.inl hk) rE (by intro o ho;cases ho);clear hB)|refine ew λW S=>?_|(refine o7 ?_;exact⟨_,(.pointer none),rfl,rfl,S.x.at,HKV.o,S.fr⟩)|(refine o7 ?_;exact⟨_,(bZ K 0),rfl,rfl,S.x.at,HKV.o,S.fr⟩))
def rq (n:Nat):Dv:=⟨n,λ_=>aX,λ_=>aX,[],0,-1,false⟩
theorem XD (n:Nat):nO (rq n):=⟨λ_=>kt,λ_=>kt,λp h=>absurd h kz,eO _,(by grind[rq]),⟨(by grind[rq]),(by grind[rq])⟩⟩
structure XT where
 rs:List (aK×Int)
 ls:List yp
 room:Nat
 down:Bool
noncomputable def Sj (r:wu×List (aK×Int)):XT:=
 match r.1 with
 | .inl _=>⟨r.2,[],0,true⟩
 | .inr x=>⟨r.2,tQ x,cZ x.s.mp,false⟩
noncomputable def O' (t:sH):wu:=nU (iR (rq (yn t.gj)))
noncomputable def zX (t:sH):XT:=Sj (lX (O' t) t.ops)
def Q9:XT:=⟨[],[],0,false⟩
theorem Hu (s:wu)(l:List xH)(o:xH):lX s (l++[o])=((mw (lX s l).1 o).1,(lX s l).2++[(mw (lX s l).1 o).2]):=by
 induction l generalizing s<;>grind[lX]
theorem Ra (s:wu)(l:List xH): (lX s l).2.length=l.length:=by
 induction l generalizing s<;>grind[lX]
def Mb (s:wu) (N:Nat):Prop:=match s with
 | .inl d=>d.ops<=N
 | .inr x=>pq x N
theorem Mb.le {s:wu} {N M:Nat} (h:Mb s N) (hN:N<=M):Mb s M:=by
 grind[pq.le,Mb]
theorem Mb.ops (h:Mb s N): (tu s).ops<=N:=by
 cases s with
 | inl d=>exact h
 | inr x=>exact pq.ops h
theorem Mb.ok (h:Mb s N)(hN:N<=990000000):abD s:=
 ⟨kL h.ops hN,λx e=>by subst e;exact pq.ok h hN⟩
theorem Mb.put (h:Mb s N){d:Dv}(hd:d.ops<=N):Mb (Kj s d) N:=by
 cases s with
 | inl _=>exact hd
 | inr x=>have h2:pq x N:=h;exact⟨h2.text,h2.mZ,hd⟩
theorem OO {r:GT×Int}(h:pq r.1 N):Mb (nU r) N:=by
 unfold nU;split
 . exact h
 . exact h.ops
theorem rB.facts (h:rB w D s v):nO (tu s)/\∀x,s=.inr x->ll x.s.ay:=
 ⟨h.dev.1,λx e=>by subst e;obtain⟨K,e,h⟩:=h;exact h.facts.2⟩
theorem aay (h:pq x N)(hd:nO x.s.dv)(hs:ll x.s.ay)(o:xH):pq (sk x o).1 (N+20000):=by
 have h5:=fun {k:GT->GT×Int} (hk:pq (k x).1 (N+9))=>Sg h (k:=k) (hk.le au);unfold sk;split
 . exact h5 ((UF h _ _).le au)
 split
 . exact h5 ((Xz h hd hs _ _ _).le au)
 split
 . exact h5 ((Y4 h hd hs _ _).le au)
 split
 . exact(XB h _ _).le au
 split
 . exact h5 ((Y1 h _).le au)
 split
 . exact h5 ((Xx h _ _).le au)
 split
 . exact h5 ((Q3 h _).le au)
 split
 . grind[Y2]
 split
 . grind[Q4]
 split
 . grind[Sg,XA]
 . exact h.le au
theorem XE {d:Dv}(h:nO d)(bS:List Bool):y8 (qy d bS).nw:=λi=>MT h.ps 0 h.st i
theorem U7 (h:Mb s N)(hd:nO (tu s))(hs: ∀x,s=.inr x->ll x.s.ay)(o:xH):Mb (mw s o).1 (N+20004):=by
 have h0:=h.le (Eo N 20004);unfold mw;split
 . exact h0.put h0.ops
 split
 . refine OO ((Q6 _ (XE hd o.bS)).le ?_);have:=h.ops
   grind[qy]
 split
 . refine h0.put ?_;have h9: (uv (tu s) o.n (vC o)).1.ops=(tu s).ops:=by grind[uv]
   rw[h9];exact h0.ops
 cases s with
 | inl d=>exact h0
 | inr x=>exact pq.le (aay h hd (hs x rfl) o) au
theorem Y7 (t:sH):Mb (O' t) 20000:=OO (by grind[Q5,rq])
structure TrV where
 rv:bh
 rs:List (aK×Int)
 lv:bh
 ls:List yp
 room:Nat
 down:Bool
def TrV.t (x:TrV):XT:=⟨x.rs,x.ls,x.room,x.down⟩
def Mc (x:TrV):Nat->bh:=λi=>if i=0 then x.rv else if i=1 then x.lv else if i=2 then .int .i64 x.room else .bool x.down
def L5:TrV:=⟨.slice none 0 0,[],.slice none 0 0,[],0,false⟩
theorem tG: (#[.slice none 0 0,.slice none 0 0,.int .i64 0,.bool false]:iw)=ah 4 (Mc L5):=rfl
instance in70aac :ZR 26 4 (Mc L5):=⟨_,zeroValue26,tG⟩
theorem UR:fu prog 26 4:=⟨⟨_,underlying26,rfl⟩,cm⟩
instance inbe5e8 :td 26 4:=⟨UR⟩
theorem RM:prog.built 26 []=some #[.slice none 0 0,.slice none 0 0,.int .i64 0,.bool false]:=cm
theorem XU:fZ prog 23:=⟨⟨_,underlying23,rfl⟩,cm⟩
instance in59288 :qD 23:=⟨XU⟩
theorem XV:fZ prog 24:=⟨⟨_,underlying24,rfl⟩,cm⟩
instance in22a2e :qD 24:=⟨XV⟩
theorem p8 (x:TrV)(h1:x.rv.oneCell'=true)(h2:x.lv.oneCell'=true): ∀i,(Mc x i).oneCell'=true:=by
 intro i;unfold Mc;split
 . exact h1
 split
 . exact h2
 split <;> rfl
def US (r:aK×Int):List bh:=(ah 129 (jQ r)).toList
theorem Sk (r:aK×Int): (US r).length=129:=by grind[US,aj]
def Cx (l:List (aK×Int)):List bh:=l.flatMap US
theorem O5 (l:List (aK×Int))(r:aK×Int):Cx (l++[r])=Cx l++(ah 129 (jQ r)).toList:=by simp_all[Cx,US]
theorem aaA: (prog.info? 38).map (λi=>(i.zero,i.size,i.bytes))=some (some (.agg zeroCells38),129,136):=cm
theorem Qc:qj prog 23 38 129 136:=⟨underlying23,_,aaA,rfl,au⟩
def Kk (w:aD) (base:Nat) (B:iw) (t:XT):Prop:=
 ∃x:TrV,B=ah 4 (Mc x)/\x.t=t/\w.ownsRow base 38 129 x.rv x.rs.length (Cx x.rs)/\w.ownsRow base 52 4 x.lv x.ls.length (zk x.ls)
theorem GU (w:aD)(base:Nat):Kk w base #[.slice none 0 0,.slice none 0 0,.int .i64 0,.bool false] Q9:=
 ⟨L5,tG,rfl,ju _ _ _ _,ju _ _ _ _⟩
section
variable {l l2:aK}{X':aK->aD->Prop}
theorem St.abE (S:St w0 none l L O (Mi w0.heap.size D X) w)(f:Fr (some D) l2 w w')(hl: ∀k∈l2,k∈l∨w0.heap.size<=k)(hL: ∀r∈L,fk r.t=false)(hs:gX (some D) X')(hx:X' (bE L O) w'):St w0 none l L O (Mi w0.heap.size D X') w':=by
 have hN:=S.x.2;refine⟨⟨f.os.trans S.fr.os,f.tape.trans S.fr.tape,f.output.trans S.fr.output,kL S.fr.size f.size,λk hk hn=>?_,(by intros;contradiction),(by intros;contradiction)⟩,λr hr=>⟨ag.fr (S.row r hr).1 f (.inr (hL r hr)) (.inl (S.row r hr).2.1),(S.row r hr).2.1,.inl (hL r hr)⟩,
  λo ho=>⟨rI (S.own o ho).1 f (.inr (S.own o ho).2.2) (S.own o ho).2.1,(S.own o ho).2⟩,S.lo,S.nd,⟨hx,λk hk=>?_⟩,sK hs⟩
 . have e:=S.fr.block k hk hn;rw[<-e];refine f.block k (uj hk S.fr.size) ?_;rintro⟨t,ht,hc⟩;rw[pR e] at ht;rcases hc with⟨D',a,b,c⟩ | ⟨a,b⟩
   . grind
   . refine hn ⟨t,ht,.inr ⟨a,(hl k b).resolve_right au⟩⟩
 . rcases f.dev D rfl k hk with h | h
   . grind
   . exact⟨kL S.fr.size h,λhm=>Al _ (uj (S.lt k hm) h)⟩
theorem St.XW (S:St w0 none l L O (Mi w0.heap.size D X) w)(h:rB w' D s v)(f:Fr (some D) l2 w w')(hl: ∀k∈l2,k∈l∨w0.heap.size<=k)(hL: ∀r∈L,fk r.t=false/\r.t≠109/\r.t≠106)(hO: ∀o∈O,o.e≠109/\o.e≠106):St w0 none l L O (Mi w0.heap.size D (Zg D s v)) w':=by
 have S1:=S.abE f hl (λr hr=>(hL r hr).1) (dB D (tu s)) h.dev;refine S1.Us (sK (LZ D s v)) ⟨h.xB λb hb=>?_,S1.x.2⟩;rcases dx.1 hb with⟨r,hr,rfl⟩ | ⟨o,ho,e⟩
 . rw[ag.ty (S1.row r hr).1]
   grind
 . rw[lP (S1.own o ho).1 e]
   grind
end
theorem XF {sb nb:Nat}(h:ur w D (uu n sb nb) (λ_=>aX) (λ_=>aX)):eU w D (rq n)/\∀k∈ki w D,k=D∨k=sb∨k=nb:=by
 have hv:iG w D ((rq n).head sb nb (.slice none 0 0)) (rq n).st (rq n).nw (rq n).ps:=⟨h,ju _ _ _ _,λp hp=>by cases hp⟩;refine⟨⟨XD n,sb,nb,_,hv⟩,λk hk=>?_⟩;rw[hv.ki] at hk;unfold bY at hk;simp only[iI] at hk;rcases hk with h | h | h | h
 . omega
 . exact .inr (.inl h)
 . exact .inr (.inr h)
 . exact absurd h (by show k∉([]:aK);grind)
theorem oZ.one {o:Nat}{l:List qw}(h:oZ w (.slice (some ⟨b,o,none⟩) n cap) l){x:qw}(hx:l[i]? =some x):tS w b (o+i*6) x/\XP x [] w:=⟨h.at hx,h.2 x (nf hx)⟩
theorem Sl {t:dD}(h: (!fk t&&t != 109&&t != 106)=true):fk t=false/\t≠109/\t≠106:=by
 grind
noncomputable def aaB (t:sH):XT:=if lu t=true then zX t else Q9
theorem Sm (l:List qw){x:qw}(hx:l[k]? =some x):yx (l.take (k+1))=yx (l.take k)++[x.toxH]:=by
 grind[yx,take_succ]
theorem Hv (K D:Nat)(y:GT)(ht:ct y.b)(w:aD)(h:cY w K D y):
 Calls prog 12 #[.pointer (some ⟨K,0,none⟩)] w λe w'=>∃r,e=.returned r/\w'.ownsRow w.heap.size 52 4 r (tQ y).length (zk (tQ y))/\dp w w':=by
 obtain⟨G,g,M,hp,e,-⟩:=h;have h1:=LM K D G M g y.s (by rw[show g.b.t=y.b from iS GT.b e];exact ht) w hp;rw[e] at h1;exact h1
theorem Hw (K D:Nat)(y:GT)(w:aD)(h:cY w K D y):Calls prog 18 #[.pointer (some ⟨K,0,none⟩)] w λe w'=>e=.returned (.int .i64 (cZ y.s.mp:Nat))/\w=w':=by
 obtain⟨G,g,M,hp,e,-⟩:=h;exact K8 K G D M g y.s w hp
theorem xF (h:w.ownsRow base e z v n xs): ∃a m c,v=.slice a m c:=by
 rcases h.2 with⟨rfl,_⟩ | ⟨g,cap,cur,rfl,_⟩<;>grind
theorem Rb (s:q8)(A:iw)(hA:A=ah 2 (uM s))(hl:s.l.length<=1000000)(hsec:bT s.gj)(hda: ∀x∈s.l,q7 x)(w:aD)(R:oZ w s.sv s.l):
 Calls prog 27 #[.agg A] w λe w'=>∃B,e=.returned (.tuple #[.agg B,.int .i64 (if lu s.t=true then 0 else 231)])/\Kk w' w.heap.size B (aaB s.t)/\dp w w':=by
 have C0:=ae λW (hb:dp w W)=>BG s A hA hl W (R.below hb);obtain⟨gj,l,ao,cap⟩:=s;obtain⟨ao',cap',he,hcap,hao⟩:=aR R.1.1;change Value.slice ao l.length cap=_ at he;simp only[mA] at he;obtain⟨rfl,-,rfl⟩:=he;simp only at hl hsec hda hao;have R:=ae (show oZ w (.slice ao l.length cap) l from R);have HA:=ae hA;have hao:=ae hao;have HDA:=ae hda;have C1:=ae λW=>Yh gj hsec W;have S:=ug w;obtain⟨q,hq⟩:=cM (lu (q8.t ⟨gj,l,ao,cap⟩));unfold aaB;rw[hq] at C0 ⊢;have HQ:=ae hq;clear hA hq hsec hda;go_enter func27,ntmps27;cases q with
 | false=>
  go_wp2_with (first|with_reducible refine js 26 2 13 S 0 tG (p8 _ rfl rfl) λW S=>?_|(go_at_call 69;refine je S (C0.o _ S.b) λW S=>?_)|(refine o7 ?_;exact⟨_,rfl,GU _ _,S.b⟩)|refine fN ?_|refine ew λW S=>?_)
 | true=>
  have hok:=om HQ.o;have hfew:l.length<=200:=by have:=hok.mZ;rw[show(q8.t ⟨gj,l,ao,cap⟩).ops.length=l.length from q9 l] at this;exact this
  have HOK:=ae hok.op;clear hok;obtain⟨T,hT⟩:=cM (zX (q8.t ⟨gj,l,ao,cap⟩));obtain⟨r,hr⟩:=cM (iR (rq (yn gj)));have HT:=ae (show Sj (lX (nU r) (yx l))=T by rw[<-hT,<-hr];rfl);have C2:=ae λD W a=>OI D (rq (yn gj)) (by show(0:Nat)<=_;omega) W a;have HB0:=ae (show Mb (nU r) 20000 by rw[<-hr];exact Y7 (q8.t ⟨gj,l,ao,cap⟩));rw[hr] at C2;simp only[hT,bC];obtain⟨x,c⟩:=r;simp only at C2;clear hT hr
  go_upto_region 4 with(first|(with_reducible first|refine jl 15 3 14 S 1 0 (.int .i64 gj) ?_)|((with_reducible refine gT 1 32 0 ?_);refine rQ S rfl HA.o rfl λW1 S=>?_)|(go_at_call 69;refine je S (C0.o _ S.b) λW S=>?_)|(go_at_call 37;refine(C1.o _).mono ?_;rintro e W ⟨D,sb,nb,rfl,⟨hd,hb⟩,hD,hsb,hnb⟩;obtain⟨hd,hdl⟩:=XF hd;have hsz:=S.fr.size;have hlt:=λk hk=>S.lt k hk;replace S:=(S.below hb).Us (sK (n:=w.heap.size) (dB D (rq (yn gj)))) ⟨hd,λk hk=>⟨by rcases hdl k hk with rfl | rfl | rfl <;> omega,λhm=>by grind⟩⟩;clear hb hd hdl hD hsb hnb hsz hlt)|refine fN ?_|refine ew λW S=>?_)
  go_upto_region 5 with(go_at_call 38;refine(C2.o D _ S.x.1).mono ?_;rintro e W ⟨u,rfl,hg,hf⟩;have hst:rB W D (nU (x,c)) u:=(by unfold nU;by_cases hc:c=0;(subst hc;obtain⟨K,e,_,hP⟩:=hg.1 rfl;exact⟨K,e,hP⟩);(rw[bX hc];exact hg.2 hc));have HKV:=ae (show ∀j∈Mj u,w.heap.size<=j from λj hj=>by by_cases hc:c=0;(obtain⟨K,e,hK,_⟩:=hg.1 hc;rw[e] at hj;rw[gz.1 (show j∈ [K] from hj)];exact kL S.fr.size hK);(rw[(hg.2 hc).1] at hj;cases hj));have HCN:=ae (show c≠0->u=.pointer none from λhc=>(hg.2 hc).1);replace S:=S.XW hst hf fh (by intro r hr;simp only[iI,kz,tZ] at hr;rcases hr with rfl | rfl <;> exact Sl rfl) (by intro o ho;cases ho);clear hg hst)
  by_cases g2:c=0;have g3: (c != 0)=false:=by rw[DY];exact g2
  rotate_left
  have g3: (c != 0)=true:=lh.2 g2;obtain rfl:u=.pointer none:=HCN.o g2
  all_goals
   clear g2
   go_upto_region 9 with(first|(with_reducible refine jl 25 30 24 S 2 1 (.slice ao l.length cap) ?_)|refine ew λW S=>?_)
   replace S:=S.yK 38 129 rfl rfl;obtain⟨TB,hTB⟩:=S.nm;rw[hTB] at S ⊢;clear hTB;have S:=ae S
   go_loopw [5,27] (λpv kv wr=>∃(k:Nat) (s:wu) (rs:List (aK×Int)) (ra:Option Addr) (rc:Nat),k<=l.length/\kv=.int .i64 k/\Hid ((lX (nU (x,c)) (yx (l.take k))=(s,rs)/\rs.length=k)/\Mb s (20000+k*20004)/\(∀j∈Mj pv,w.heap.size<=j)/\
    St w none [] [⟨TB,26,4,Mc ⟨.slice ra rs.length rc,rs,.slice none 0 0,[],0,false⟩⟩,⟨W1.heap.size,26,4,Mc L5⟩,⟨w.heap.size,32,2,uM ⟨gj,l,ao,cap⟩⟩] [⟨38,129,.slice ra rs.length rc,rs.length,Cx rs⟩] (Mi w.heap.size D (Zg D s pv)) wr)) (λ_ kv _=>l.length - (intOf kv).toNat)
   case atStart=>exact⟨0,_,[],none,0,au,rfl,ae ⟨⟨rfl,rfl⟩,HB0.o,HKV.o,S.o⟩⟩
   case round=>
    clear S HKV;obtain⟨k,s,rs,ra,rc,hk,rfl,hS⟩:=hrel;obtain⟨hst,hB,hkv,S⟩:=hS.o;clear hS;have HST:=ae hst;have HBB:=ae hB;have HKV:=ae hkv;have hrs:rs.length<=200:=by rw[hst.2];omega
    clear hst hB hkv;by_cases hlt:k<l.length
    . obtain⟨b,lo,rfl⟩:=hao.o au;obtain⟨o,hx⟩: ∃o,l[k]? =some o:=⟨_,j4 hlt⟩;have hfa:=S.x.1.at.facts;have HN:=ae (show lX (nU (x,c)) (yx (l.take (k+1)))=((mw s o.toxH).1,rs++[(mw s o.toxH).2]) by rw[Sm l hx,Hu,HST.o.1]);have HB2:=ae (show Mb (mw s o.toxH).1 (20000+ (k+1)*20004) from(U7 HBB.o hfa.1 hfa.2 o.toxH).le au);have hop:EI o.toxH:=tT (HOK.o _ (lY.2 ⟨o,nf hx,rfl⟩));have C3:=ae λW (h:rB W D s u5) (hb:dp w W)=>Si D s u5 (HBB.o.ok au) o hop (HDA.o o (nf hx)) b (lo+k*6) W h (λW' f=>((R.o.below hb).fr f).one hx);obtain⟨q,hq⟩:=cM (mw s o.toxH);rw[hq] at HN HB2 C3;clear hx hq hfa hop
      go_wp2_with (first
   |(with_reducible first|refine jl 34 30 33 S 3 1 (.slice (s_ b lo) l.length cap) ?_|refine jl 41 23 40 S 1 0 (.slice ra rs.length rc) ?_)
   |(go_at_call 70;refine(C3.o _ S.x.1.at S.b).mono ?_;rintro e W ⟨B,v',rfl,hB,hst,hkv,hf⟩;have HB:=ae hB;have HKW:=ae (show ∀j∈Mj v',w.heap.size<=j from λj hj=>(hkv j hj).elim (HKV.o j) (kL S.fr.size));replace S:=S.XW hst hf (λj hj=>.inr (HKV.o j hj)) (by intro r hr;simp only[iI,kz,tZ] at hr;rcases hr with rfl | rfl | rfl | rfl <;> exact Sl rfl) (by intro o ho;simp only[iI,kz,tZ] at ho;rcases ho with rfl;exact(Sl rfl).2);clear hB hst hkv)
   |((with_reducible refine bN 44 41 43 ?_);refine lZ S 0 rfl 0 rfl rfl rfl rfl Qc (jR _) JW BM λg9 c9 W S=>?_)
   |((with_reducible refine aS 23 45 44 ?_);refine gu S 2 rfl 0 (Mc ⟨.slice (s_ g9 0) (rs.length+1) c9,rs++[q.2],.slice none 0 0,[],0,false⟩) (λj hj=>by have hj:j<4:=hj;rcases j with(_|_|_|_|j) <;> first | rfl) qv rfl rfl rfl XU λW S=>?_)
   |refine fN ?_
   |refine ew λW S=>?_)
      go_roundw
      case rel=>
       refine⟨k+1,q.1,rs++[q.2],s_ g9 0,c9,au,by go_num,ae ⟨⟨HN.o,by rw[kh,HST.o.2];rfl⟩,HB2.o,HKW.o,?_⟩⟩;rw[kh,O5];exact S.pop.pop
      case measure=>exact uO
    . obtain rfl:k=l.length:=au;have HT2:=ae (show Sj (s,rs)=T by rw[<-HT.o,<-HST.o.1,tX (eO _)]);clear HST HT;cases s with
      | inl d=>
       obtain rfl:=(S.x.1.at:rB _ D (.inl d) u5).1;obtain⟨TA,HTA⟩:=BU (ah 4 (Mc ⟨.slice ra rs.length rc,rs,.slice none 0 0,[],0,true⟩))
       go_wp2_with (first
   |with_reducible refine js 26 2 50 S 1 HTA.o (p8 _ rfl rfl) λW S=>?_
   |((with_reducible refine fE 4 49 ?_);refine gu S 0 rfl 3 (Mc ⟨.slice ra rs.length rc,rs,.slice none 0 0,[],0,true⟩) (λj hj=>by have hj:j<4:=hj;rcases j with(_|_|_|_|j) <;> first | rfl | omega) qv rfl rfl rfl gU λW S=>?_)
   |(refine o7 ?_;exact⟨_,rfl,⟨⟨.slice ra rs.length rc,rs,.slice none 0 0,[],0,true⟩,rfl,HT2.o,S.o0,ju _ _ _ _⟩,S.b⟩)
   |refine fN ?_)
      | inr y=>
       obtain⟨K,rfl,-⟩:=(S.x.1.at:rB _ D (.inr y) u5);have C5:=ae λW (h:cY W K D y)=>Hv K D y (HBB.o:pq y _).text W h;have C6:=ae λW (h:cY W K D y)=>Hw K D y W h;have HT3:=ae (show(⟨rs,tQ y,cZ y.s.mp,false⟩:XT)=T from HT2.o);obtain⟨ls,hls⟩:=cM (tQ y);obtain⟨rm,hrm⟩:=cM (cZ y.s.mp);rw[hls] at C5 HT3;rw[hrm] at C6 HT3;clear hls hrm HT2
       go_wp2_with (first|with_reducible refine js 26 2 57 S 1 HTA.o (p8 _ rfl rfl) λW S=>?_|(go_at_call 12;refine(C5.o _ S.x.1.at.Y6).mono ?_;rintro e W ⟨r,rfl,ho,hb⟩;obtain⟨a9,n9,z9,rfl⟩:=xF ho;obtain⟨TA,HTA⟩:=BU (ah 4 (Mc ⟨.slice ra rs.length rc,rs,.slice a9 n9 z9,ls,rm,false⟩));replace S:=S.cU hb ho rfl rfl;clear hb ho)|(go_at_call 18;refine qJ (C6.o _ S.x.1.at.Y6) ?_)|((with_reducible refine aS 24 55 52 ?_);refine gu S 0 rfl 1 (Mc ⟨.slice ra rs.length rc,rs,.slice a9 n9 z9,ls,0,false⟩) (λj hj=>by have hj:j<4:=hj;rcases j with(_|_|_|_|j) <;> first | rfl) qv rfl rfl rfl XV λW S=>?_)|((with_reducible refine aS 3 56 54 ?_);refine gu S 0 rfl 2 (Mc ⟨.slice ra rs.length rc,rs,.slice a9 n9 z9,ls,rm,false⟩) (λj hj=>by have hj:j<4:=hj;rcases j with(_|_|_|_|j) <;> first | rfl) qv rfl rfl rfl kX λW S=>?_)|(refine o7 ?_;exact⟨_,rfl,⟨⟨.slice ra rs.length rc,rs,.slice a9 n9 z9,ls,rm,false⟩,rfl,HT3.o,S.o1,S.o0⟩,S.b⟩)|refine fN ?_)
def UT (base:Nat) (e:dD) (z:Nat) (v:bh) (n:Nat) (xs:List bh):aK->aD->Prop:=λB w=>w.ownsRow base e z v n xs/\∀b,v.ownBlock=some b->b∉B
theorem EP (base:Nat)(e:dD)(z:Nat)(v:bh)(n:Nat)(xs:List bh)(h1:fk e=false)(h2:df e=false):Still (UT base e z v n xs):=
 ⟨λa b=>⟨fR a.1 b,a.2⟩,fun {B w b} a hb=>⟨a.1,λk hk hm=>by
  rcases iI.1 hm with rfl | hm
  . exact Al _ (uj (a.1.lt _ hk).2 hb)
  . exact a.2 k hk hm⟩,λa hm=>⟨a.1,λk hk hb=>a.2 k hk (hm k hb)⟩,λa hb hbut=>⟨jX a.1 (λe=>a.2 _ e hb) hbut,a.2⟩,λa f=>⟨rI a.1 f (.inr h1) h2,a.2⟩⟩
section
variable {l:aK}
theorem St.Sn (S:St w0 d l L O X w)(hb:dp w w'){s:q8}(h1:w'.ownsRow w.heap.size 41 6 s.sv s.l.length (YX s.l))(h2: ∀x∈s.l,Et w' w.heap.size x/\q7 x):St w0 d l L O (λB w=>X B w/\UQ s.sv s.l B w) w':=
 (S.below hb).yu (lE _ _) ⟨⟨ar.aV h1,λ_ b hb2 hm=>by have h3:=(h1.lt b hb2).1;have h4:=S.lt b hm;omega⟩,λx hx=>(h2 x hx).1.x λb h=>S.lt b h⟩
theorem St.Sp (S:St w0 d l L O X w)(hbase: ∀b∈bE L O,b<base)(ho:w.ownsRow base e z v n xs)(h1:fk e=false)(h2:df e=false):St w0 d l L O (λB w=>X B w/\UT base e z v n xs B w) w:=
 S.yu (EP base e z v n xs h1 h2) ⟨ho,λb hb hm=>Al _ (uj (hbase b hm) (ho.lt b hb).1)⟩
theorem St.XG (S:St w0 d l L O X w)(hb:dp w w'){x:TrV}(h1:w'.ownsRow w.heap.size 38 129 x.rv x.rs.length (Cx x.rs))(h2:w'.ownsRow w.heap.size 52 4 x.lv x.ls.length (zk x.ls)):
 St w0 d l L O (λB w2=>(X B w2/\UT w.heap.size 38 129 x.rv x.rs.length (Cx x.rs) B w2)/\UT w.heap.size 52 4 x.lv x.ls.length (zk x.ls) B w2) w':=
 ((S.below hb).Sp (λb h=>S.lt b h) h1 rfl rfl).Sp (λb h=>S.lt b h) h2 rfl rfl
end
noncomputable def zn (bs:aK):XT×Int:=(mN bs).elim (Q9,231) λt=>(zX t,0)
theorem OP (bs:aK)(u:bh)(hbl:bs.length<=1000000000)(hby: ∀y∈bs,y<256)(w:aD)(R:ar w 5 1 u bs.length (aQ bs)):
 Calls prog 7 #[u] w λe w'=>∃B,e=.returned (.tuple #[.agg B,.int .i64 (zn bs).2])/\Kk w' w.heap.size B (zn bs).1/\dp w w':=by
 have S:=ug w;obtain⟨T,hT⟩:=cM (mN bs);have C1:=ae λW (hb:dp w W)=>DV bs u hbl hby W (R.below hb);unfold zn;rw[hT] at C1 ⊢;cases T with
 | none=>
  simp only[Option.elim_none,codeF,X3] at C1 ⊢;clear hT R;go_enter func7,ntmps7
  go_wp2_with (first|(with_reducible first|refine jb 2 26 S zeroValue26 tG λW S=>?_|refine jb 4 32 S Oz mh λW S=>?_|refine js 32 4 9 S 0 HB.o (kS _) λW S=>?_|refine js 26 2 13 S 1 tG (p8 _ rfl rfl) λW S=>?_)|(go_at_call 8;refine(C1.o _ S.b).mono ?_;rintro e W ⟨B,rfl,⟨s,hB,-,-,-⟩,hb⟩;have HB:=ae hB;replace S:=S.below hb;clear hb hB)|((with_reducible refine aY 13 26 ?_);refine ku RM ?_)|((with_reducible refine aJ ?_);go_must (refine bj S 1 rfl rfl rfl UR rfl ?_;exact⟨_,rfl,GU _ _,S.b⟩)))
 | some t=>
  have hr:=zm hT;have HR:=ae hr;have HOK:=ae (om hr);simp only[E',codeF,X4,wz,mb] at C1 ⊢;have C2:=ae λ(s:q8) B (hB:B=ah 2 (uM s)) (hs:s.t=t) (hd: ∀x∈s.l,q7 x) W (R:oZ W s.sv s.l)=>(show Calls prog 27 #[.agg B] W λe w'=>∃B,e=.returned (.tuple #[.agg B,.int .i64 0])/\Kk w' W.heap.size B (zX t)/\dp W w' from by
   have hk:=HOK.o;have h1:=hk.mZ;have h2:=hk.gj;subst hs;have h9:=Rb s B hB (by rw[show s.t.ops.length=s.l.length from q9 s.l] at h1;omega) (by unfold bT;rw[show s.t.gj=s.gj from rfl] at h2;omega) hd W R;unfold aaB at h9;rw[bC HR.o,bC HR.o] at h9;exact h9)
  clear hT R hr;go_enter func7,ntmps7
  go_wp2_with (first|(with_reducible refine jr 15 32 4 S 0 HB.o ?_)|(with_reducible first|refine jb 2 26 S zeroValue26 tG λW S=>?_|refine jb 4 32 S Oz mh λW S=>?_|refine js 32 4 9 S 0 HB.o (kS _) λW S=>?_|refine js 26 2 17 S 1 HB2.o (p8 _ rfl rfl) λW S=>?_)|(go_at_call 8;refine(C1.o _ S.b).mono ?_;rintro e W ⟨B,rfl,⟨s,hB,hst,ho,hx⟩,hb⟩;have HB:=ae hB;have HST:=ae hst;have HD:=ae (show ∀x∈s.l,q7 x from λx h=>(hx x h).2);replace S:=S.Sn hb ho hx;clear hb hB hst ho hx)|(go_at_call 27;refine(C2.o s B HB.o HST.o HD.o _ ((lE _ _).mono S.x.2 fh)).mono ?_;rintro e W ⟨B2,rfl,⟨⟨rv,rs,lv,ls,rm,dn⟩,hB2,ht2,ho1,ho2⟩,hb⟩;have hsz:=S.fr.size;obtain⟨a1,n1,c1,rfl⟩:=xF ho1;obtain⟨a2,n2,c2,rfl⟩:=xF ho2;have HB2:=ae hB2;have HT2:=ae ht2;have HSZ:=ae hsz;replace S:=S.XG (x:=⟨.slice a1 n1 c1,rs,.slice a2 n2 c2,ls,rm,dn⟩) hb ho1 ho2;clear hb hB2 ht2 ho1 ho2 hsz)|((with_reducible refine aJ ?_);go_must (refine bj S 1 rfl rfl rfl UR rfl ?_;exact⟨_,rfl,⟨⟨.slice a1 n1 c1,rs,.slice a2 n2 c2,ls,rm,dn⟩,rfl,HT2.o,oD S.x.1.2.1 HSZ.o,oD S.x.2.1 HSZ.o⟩,S.b⟩)))
theorem OQ (f:lf) (i:Int) (x:GT): (qH f i x).2.2≠0->(qH f i x).2.1=aX:=by
 unfold qH;split
 . intro _;rfl
 unfold BI;split
 . intro _;rfl
 unfold EK
 grind
theorem UH (x:GT) (o:xH) (h:o.kind≠3∨(sk x o).2.2≠0): (sk x o).2.1=aX:=by
 unfold sk at h ⊢;simp only at h ⊢
 repeat' split
 all_goals first|rfl|skip
 grind[OQ]
theorem Rc (s:wu) (o:xH) (h:o.kind≠3∨(mw s o).2.2≠0): (mw s o).2.1=aX:=by
 unfold mw at h ⊢;split
 . rfl
 split
 . rfl
 split
 . rfl
 next h1 h2 h3=>
  simp only[bX h1,bX h2,bX h3] at h
  grind[UH]
theorem OR (s:wu)(l:List xH){o:xH}(ho:l[k]? =some o)(hr: (lX s l).2[k]? =some r)(h:o.kind≠3∨r.2≠0):r.1=aX:=by
 induction l generalizing s k<;>grind[lX,Rc]
theorem Sq (t:sH): (zX t).rs=(lX (O' t) t.ops).2:=by grind[zX,Sj]
theorem XH (t:sH): (zX t).rs.length=t.ops.length:=by rw[Sq,Ra]
theorem UI (t:sH)(h: (zX t).down=true): (zX t).ls=[]/\(zX t).room=0:=by
 unfold zX Sj at h ⊢
 grind
theorem Rd (h: ∀x∈l,(Lit.int .u8 x).wf=true):l.map (Value.int .u8)=aQ (l.map Int.toNat):=by
 grind[aQ,map_congr_left,bounds_u8,Int.toNat_of_nonneg]
theorem Y8 (h: ∀x∈l,(Lit.int .u8 x).wf=true): ∀y∈l.map Int.toNat,y<256:=by
 intro y hy;obtain⟨x,hx,rfl⟩:=lY.1 hy;have:=bounds_u8 (h x hx);omega
def Re (w:aD) (z:Nat) (v:bh) (n:Nat) (xs:List bh):Prop:=
 xs.length=n*z/\∃ao cap,v=.slice ao n cap/\(0<n->∃b o,ao=some ⟨b,o,none⟩/\b<w.heap.size/\∀i u,xs[i]? =some u->w.cell? ⟨b,o+i,none⟩=some u)
theorem br.cells (h:br .u8 w v l):Re w 1 v (l.map Int.toNat).length (aQ (l.map Int.toNat)):=by
 obtain⟨ao,cap,rfl,h2,h3,h4⟩:=h;rw[<-Rd h3];refine⟨by simp,ao,cap,by grind,λhn=>?_⟩;obtain⟨b,o,e,hb,hc⟩:=h4 rE
 grind
section
variable {ops:Array Oper}
variable {l:aK}{x dst:Nat}{ty:dD}
theorem EL (S:St w0 d l L O X w)(j:Nat){o:O4}(hj:O[j]? =some o){t:dD}(hs:a.eval (.tmp x)=o.v)(hx:a.eval (.tmp y)=v)(R:Re w o.z v n xs)(ht:qj P t o.e o.z by')(h1: ∀u∈xs,u.oneCell'=true)(hn: (o.n+n)*by'<=140737488355328)(hm:o.n+n<=maxLen)(h: ∀v' W,St w0 d l L (O.set j ⟨o.e,o.z,v',o.n+n,o.xs++xs⟩) X W->wpList P ops Q rest (a.put (some dst) v') W):
 wpList P ops Q (⟨some dst,.call {callee:=.builtin .append,args:=#[.tmp x,.tmp y],argTypes:=#[t,t]},t2,p,af,none⟩::rest) a w:=by
 refine sD rfl λK hK=>?_;obtain⟨hu,zv,hi,hz,h0⟩:=ht;obtain⟨it,hi1,hz0,hz1,hz2⟩:=sC hi;obtain⟨hl,ao,cap,rfl,hc3⟩:=R;by_cases hn0:n=0
 . subst hn0;have hx0:xs=[]:=Jp au;subst hx0;have hrun:=qE (P:=P) w w0.heap.size t t2 o.e it o.z hu hi1 o.v o.n o.xs (S.bR hj) ao cap;unfold Oper.wp execOp;simp only[resolve,invoke,builtin,py,wB,rj,map_toArray,map_cons,map_nil,hs,hx,hrun];refine hK _ _ (h _ _ ?_);rw[CI,ET];have e1:O.set j ⟨o.e,o.z,o.v,o.n,o.xs⟩=O:=by
    apply EU;intro i;rw[Pa];split
    . next h=>subst h;split<;>simp_all
    . rfl
   grind
 . obtain⟨b,off,rfl,hb,hcs⟩:=hc3 au;refine wp_append_lies w (.tmp x) (.tmp y) t rfl w0.heap.size o.e it zv o.z by' hu hi1 hz0 hz1 hz2 hz h0 o.v o.n o.xs hs (S.bR hj) ⟨b,off,none⟩ n cap xs hx hl (λi u hu2=>?_) h1 au hm hn S.fr.size _ rfl λg cap' w' hown hg hat _=>hK _ _ (h _ w' ?_)
   . grind[Addr.add]
   . exact S.grow hj hg hown rfl hat
end
theorem Zz {l:aK}(h:ag w b 5 n (AD .u8 (aW l)))(hl:l.length=n)(hn:n<=1000):ar w 5 1 (.slice (some ⟨b,0,none⟩) n n) n (aQ l):=by
 subst hl;refine⟨by grind[aQ],_,_,rfl,eO _,by grind[maxLen],λ_=>⟨b,0,_,_,rfl,h,λj u hu=>?_⟩⟩;unfold aQ at hu;rw[tY] at hu;cases hi:l[j]? with
 | none=>grind
 | some x=>
  rw[hi] at hu;cases hu;obtain⟨hlt,rfl⟩:=sy.1 hi
  simp_all[aF,AD,aW]
theorem OS (h:w.ownsRow base e z v n xs): ∃a c,v=.slice a n c:=by
 rcases h.2 with⟨rfl,rfl⟩ | ⟨g,cap,cur,rfl,_⟩<;>grind
theorem br.Rf (h:br .u8 w v l)(hb:dp w w'):Re w' 1 v (l.map Int.toNat).length (aQ (l.map Int.toNat)):=(h.below hb).cells
theorem vE (l:aK): ∀u∈aQ l,u.oneCell'=true:=by
 intro u hu;unfold aQ at hu;obtain⟨_,_,rfl⟩:=lY.1 hu;rfl
theorem U8: ∀w:aD,(binOp .neq 36 (.agg (ah 128 (aw aX))) (.agg (ah 128 (aw aX)))).run prog w=.ok (.bool false) w:=λw=>Zj aX aX true (by rw[JR kt kt];exact ly rfl) w
theorem Kk.open {t:XT}(h:Kk w base B t): ∃a c a2 c2,B=ah 4 (Mc ⟨.slice a t.rs.length c,t.rs,.slice a2 t.ls.length c2,t.ls,t.room,t.down⟩)/\
 w.ownsRow base 38 129 (.slice a t.rs.length c) t.rs.length (Cx t.rs)/\w.ownsRow base 52 4 (.slice a2 t.ls.length c2) t.ls.length (zk t.ls):=by
 obtain⟨⟨rv,rs,lv,ls,rm,dn⟩,hB,rfl,h1,h2⟩:=h;simp only at h1 h2;obtain⟨a,c,rfl⟩:=OS h1;obtain⟨a2,c2,rfl⟩:=OS h2;exact⟨a,c,a2,c2,hB,h1,h2⟩
theorem GV (least: (zn [1,0,2,0,64,0]).2=0/\(zn [1,0,2,0,64,0]).1.room=55)(l:List Int)(hl0:l.length<=140737488351232)(u:bh)(w:aD)(R:br .u8 w u l):
 yr 3 #[u] w (.bool true):=by
 have hwf: ∀x∈l,(Lit.int .u8 x).wf=true:=by obtain⟨_,_,_,_,h,_⟩:=R;exact h
 have hby:=Y8 hwf;have HR:=ae λW (hb:dp w W)=>R.Rf hb;obtain⟨ua,uc,rfl⟩: ∃ua uc,u=.slice ua (l.map Int.toNat).length uc:=by obtain⟨ao,cap,e,_⟩:=R;exact⟨ao,cap,by rw[e,pr]⟩
 have hl0: (l.map Int.toNat).length<=140737488351232:=by rw[pr];exact hl0
 obtain⟨bs,hbs⟩:=cM (l.map Int.toNat);rw[hbs] at HR hby hl0 ⊢;clear R hwf hbs;have S:=ug w;have C0:=ae λv W R=>OP [1,0,2,0,64,0] v nh nh W R;obtain⟨T0,hT0⟩:=cM (zn [1,0,2,0,64,0]);rw[hT0] at C0 least;obtain⟨⟨ra0,la0,rm0,dn0⟩,c0⟩:=T0;obtain⟨rfl,rfl⟩:c0=0/\rm0=55:=least;simp only at C0;clear hT0;obtain⟨n,HN⟩:=qI bs.length;rw[HN.o] at HR hl0 ⊢;go_enter func3,ntmps3;by_cases hbig: (20000:Int)< (n:Int)
 . go_wp2_with (first|(with_reducible refine jm 20 3 19 S 0 2 (.int .i64 (55:Nat)) ?_)|with_reducible refine js 26 3 14 S 0 HB.o (p8 _ rfl rfl) λW S=>?_|((with_reducible refine j6 12 22 6 ?_);refine eY S .u8 (aW [1,0,2,0,64,0]) oC Ir au au rfl rfl rfl λW S=>?_)|(go_at_call 7;refine(C0.o _ _ (Zz (n:=6) (l:=[1,0,2,0,64,0]) S.k0 rfl au)).mono ?_;rintro e W ⟨B,rfl,hg,hb⟩;obtain⟨x1,y1,x2,y2,hB,ho1,ho2⟩:=hg.open;simp only at hB;have HB:=ae hB;replace S:=S.below hb;clear hb hB hg ho1 ho2)|refine ew λW S=>?_)
   go_ret;exact⟨rfl,S.b⟩
 have C1:=ae λv W (R:ar W 5 1 v n (aQ bs))=>DV bs v (by rw[HN.o];omega) hby W (by rw[HN.o];exact R);have C2:=ae λv W (R:ar W 5 1 v n (aQ bs))=>OP bs v (by rw[HN.o];omega) hby W (by rw[HN.o];exact R);obtain⟨T,hT⟩:=cM (mN bs);unfold zn at C2;rw[hT] at C1 C2
 go_upto_region 6 with(first|(with_reducible refine jm 20 3 19 S 0 2 (.int .i64 (55:Nat)) ?_)|with_reducible refine js 26 3 14 S 0 HB.o (p8 _ rfl rfl) λW S=>?_|((with_reducible refine j6 12 22 6 ?_);refine eY S .u8 (aW [1,0,2,0,64,0]) oC Ir au au rfl rfl rfl λW S=>?_)|(go_at_call 7;refine(C0.o _ _ (Zz (n:=6) (l:=[1,0,2,0,64,0]) S.k0 rfl au)).mono ?_;rintro e W ⟨B,rfl,hg,hb⟩;obtain⟨x1,y1,x2,y2,hB,ho1,ho2⟩:=hg.open;simp only at hB;have HB:=ae hB;replace S:=S.below hb;clear hb hB hg ho1 ho2)|refine ew λW S=>?_)
 cases T with
 | none=>
  simp only[Option.elim_none,codeF,X3] at C1 C2;clear hT
  go_wp2_with (first|(with_reducible first|refine jm 53 23 52 S 0 0 (.slice x3 0 y3) ?_|refine jm 56 24 55 S 0 1 (.slice x4 0 y4) ?_|refine jm 60 3 59 S 0 2 (.int .i64 (0:Nat)) ?_|refine jm 66 4 65 S 0 3 (.bool false) ?_)|with_reducible refine js 26 7 45 S 0 HB3.o (p8 _ rfl rfl) λW S=>?_|((with_reducible refine j6 27 22 0 ?_);refine bl0 S mG rfl rfl λg W S=>?_)|((with_reducible refine bN 29 27 28 ?_);refine EL S 0 rfl (by':=1) rfl rfl (HR.o _ S.b) mG (vE _) JW BM λv1 W S=>?_;rw[rC] at S;have HV1:=ae S.q0)|(go_at_call 8;refine(C1.o _ _ HV1.o).mono ?_;rintro e W ⟨B2,rfl,⟨s,hB,-,-,-⟩,hb⟩;have HB2:=ae hB;replace S:=S.below hb;clear hb hB HV1)|((with_reducible refine j6 41 22 0 ?_);refine bl0 S mG rfl rfl λg2 W S=>?_)|((with_reducible refine bN 43 41 42 ?_);refine EL S 0 rfl (by':=1) rfl rfl (HR.o _ S.b) mG (vE _) JW BM λv2 W S=>?_;rw[rC] at S;have HV2:=ae S.q0)|(go_at_call 7;refine(C2.o _ _ HV2.o).mono ?_;rintro e W ⟨B3,rfl,hg,hb⟩;obtain⟨x3,y3,x4,y4,hB,ho1,ho2⟩:=hg.open;have HB3:=ae (show B3=ah 4 (Mc ⟨.slice x3 0 y3,[],.slice x4 0 y4,[],0,false⟩) from hB);replace S:=S.below hb;clear hb hB hg ho1 ho2 HV2)|refine ew λW S=>?_)
  go_ret;exact⟨rfl,S.b⟩
 | some t=>
  have hrt:=zm hT;have hok:=om hrt;simp only[E',codeF,X4,wz,mb] at C1 C2;have HRL:=ae (XH t);have HRD:=ae (UI t);have HRZ:=ae λk o r ho (hr: (zX t).rs[k]? =some r)=>OR (O' t) t.ops (k:=k) (o:=o) (r:=r) ho (by rw[<-Sq];exact hr);obtain⟨tr,htr⟩:=cM (zX t);rw[htr] at C2 HRL HRD HRZ;have hfew:=hok.mZ;obtain⟨m,HM⟩:=qI t.ops.length;rw[HM.o] at HRL hfew;clear hT hrt hok htr;obtain⟨trs,tls,trm,tdn⟩:=tr;simp only at HRL HRD HRZ
  go_upto_region 7 with(first|((with_reducible refine j6 27 22 0 ?_);refine bl0 S mG rfl rfl λg W S=>?_)|((with_reducible refine bN 29 27 28 ?_);refine EL S 0 rfl (by':=1) rfl rfl (HR.o _ S.b) mG (vE _) JW BM λv1 W S=>?_;rw[rC] at S;have HV1:=ae S.q0)|(go_at_call 8;refine(C1.o _ _ HV1.o).mono ?_;rintro e W5 ⟨B2,rfl,⟨s,hB,hst,ho,hx⟩,hb⟩;have HB2:=ae hB;have HST:=ae hst;replace S:=S.Sn hb ho hx;clear hb hB HV1 hst ho hx)|refine ew λW S=>?_)
  obtain⟨gj,ol,oa,oc⟩:=s;have HSV:=ae (show uM ⟨gj,ol,oa,oc⟩ 1=.slice oa m oc by rw[<-HM.o,<-HST.o];show Value.slice oa ol.length oc=Value.slice oa (yx ol).length oc;rw[q9]);have HOT:=ae (show t.ops=yx ol by rw[<-HST.o];rfl);clear HST;replace S:=S.vP (X':=λB w=>UQ (.slice oa m oc) ol B w) (λB w h=>by have h9:=h.2;rw[show(q8.sv ⟨gj,ol,oa,oc⟩)=.slice oa m oc from HSV.o] at h9;exact h9) (lE _ _).fs;by_cases h400: (400:Int)<gj
  . go_wp2_with (with_reducible refine jm 37 3 36 S 0 0 (.int .i64 gj) ?_)
    go_ret;exact⟨rfl,S.b⟩
  go_upto_region 12 with(first|(with_reducible refine jm 37 3 36 S 0 0 (.int .i64 gj) ?_)|with_reducible refine js 26 7 45 S 0 HB3.o (p8 _ rfl rfl) λW S=>?_|((with_reducible refine j6 41 22 0 ?_);refine bl0 S mG rfl rfl λg2 W S=>?_)|((with_reducible refine bN 43 41 42 ?_);refine EL S 0 rfl (by':=1) rfl rfl (HR.o _ S.b) mG (vE _) JW BM λv2 W S=>?_;rw[rC] at S;have HV2:=ae S.q0)|(go_at_call 7;refine(C2.o _ _ HV2.o).mono ?_;rintro e W ⟨B3,rfl,hg,hb⟩;obtain⟨x3,y3,x4,y4,hB,ho1,ho2⟩:=hg.open;simp only at hB ho1 ho2;have HB3:=ae hB;replace S:=S.XG (x:=⟨.slice x3 trs.length y3,trs,.slice x4 tls.length y4,tls,trm,tdn⟩) hb ho1 ho2;clear hb hB hg ho1 ho2 HV2)|refine ew λW S=>?_)
  try simp only at S HB3
  rw[HRL.o] at S HB3;rcases tdn with _ | _
  rotate_left
  obtain⟨h1,h2⟩:=HRD.o rfl;subst h1 h2
  all_goals
   go_upto_region 15 with(first|(with_reducible first|refine jm 73 23 72 S 0 0 (.slice x3 m y3) ?_|refine jm 82 4 81 S 0 3 (.bool false) ?_|refine jm 82 4 81 S 0 3 (.bool true) ?_|refine jm 85 24 84 S 0 1 (.slice x4 0 y4) ?_|refine jm 88 3 87 S 0 2 (.int .i64 (0:Nat)) ?_|refine jl 94 23 93 S 0 0 (.slice x3 m y3) ?_)|((with_reducible refine cP 76 30 75 ?_);refine cV cm ?_;refine dY S 1 rfl 1 (v:=.slice oa m oc) HSV.o qv rfl Ht ?_))
   have S:=ae S
   go_loopw [96] (λkv wr=>∃k:Nat,k<=m/\kv=.int .i64 k/\Hid (∃wb r0 L1 O1,St w none [] (r0:: ⟨W5.heap.size,32,2,uM ⟨gj,ol,oa,oc⟩⟩::L1) O1 (λB w=>UQ (.slice oa m oc) ol B w/\UT wb 38 129 (.slice x3 m y3) m (Cx trs) B w) wr)) (λkv _=>m - (intOf kv).toNat)
   case atStart=>exact⟨0,au,rfl,ae ⟨_,_,_,_,S.o.vP (λB w h=>h.1) ((lE _ _).and (EP _ _ _ _ _ _ rfl rfl)).fs⟩⟩
   case round=>
    clear S;obtain⟨k,hk,rfl,hS⟩:=hrel;obtain⟨wb,r0,L1,O1,S⟩:=hS.o;clear hS;by_cases hlt:k<m
    . obtain⟨⟨bs1,c1⟩,hr⟩: ∃r,trs[k]? =some r:=⟨_,j4 (by rw[HRL.o];exact hlt)⟩;obtain⟨o,ho⟩: ∃o,ol[k]? =some o:=⟨_,j4 (by have h9:=HM.o;rw[HOT.o,q9] at h9;omega)⟩;obtain⟨ob,oo,rfl⟩: ∃b o,oa=s_ b o:=by
       obtain⟨_,_,e1,_,h⟩:=aR S.x.1.1.1;simp only[mA] at e1;obtain⟨q1,q2,q3⟩:=h (by have h9:=HM.o;rw[HOT.o,q9] at h9;omega);exact⟨q1,q2,by rw[e1.1];exact q3⟩
      obtain⟨rb,ro,rfl⟩: ∃b o,x3=s_ b o:=by
       obtain⟨_,_,e1,_,h⟩:=aR (ar.aV S.x.2.1);simp only[mA] at e1;obtain⟨q1,q2,q3⟩:=h au;exact⟨q1,q2,by rw[e1.1];exact q3⟩
      have HO:=ae ho;have HZ:=ae (HRZ.o k o.toxH (bs1,c1) (by rw[HOT.o];unfold yx;rw[tY,ho];rfl) hr);obtain⟨RB,HRB⟩:=BU (ah 129 (jQ (bs1,c1)));have HLD:=ae (show RB.size=129/\∀i,i<129->(Cx trs)[k*129+i]? =RB[i]? from⟨by rw[HRB.o,aj],λi hi=>by
       obtain⟨hk2,he⟩:=sy.1 hr;unfold Cx;rw[flat_get Sk trs hk2 hi,he,HRB.o];unfold US;rw[qx]⟩)
      clear hr ho;obtain⟨okd,hokd⟩:=cM o.kind;have HC0:Hid (∀W,oZ W (.slice (s_ ob oo) m oc) ol->W.cell? ⟨ob,oo+k*6,none⟩=some (.int .i64 okd)):=ae λW h=>by rw[<-hokd];exact(h.at HO.o).c0
      rw[show o.toxH.kind=okd from hokd] at HZ;clear hokd;by_cases hz:okd≠3∨c1≠0;obtain rfl:bs1=aX:=HZ.o hz;obtain⟨ZA,HZA⟩:=BU (ah 128 (aw aX));have hne:=U8;rw[<-HZA.o] at hne;have HB36:=ae (show prog.built 36 []=some ZA by rw[HZA.o,<-ij];exact CG);by_cases h3:okd=3;have h4: (c1 != 0)=true:=by rw[lh];exact hz.resolve_left (λh=>h h3)
      subst h3;clear hz
      rotate_left
      have h4: (okd != 3)=true:=by rw[lh];exact h3
      clear hz h3
      rotate_left
      obtain⟨rfl,rfl⟩:okd=3/\c1=0:=au;clear hz
      all_goals
       go_wp2_with (first
   |(with_reducible refine jm 110 27 109 S 0 0 (.int .i64 c1) ?_)
   |((with_reducible refine tl 116 36 ?_);refine cV cm ?_;refine eW (cells:=ZA) rfl HB36.o ?_)
   |(with_reducible refine jm 110 27 109 S 0 0 (.int .i64 0) ?_)
   |((with_reducible refine pP ?_);first | refine Md (ar.aV S.x.2.1) (j:=k) au HLD.o.1 HLD.o.2 ?_ | refine O9 S 2 rfl 1 (v:=.slice (s_ ob oo) m oc) HSV.o ?_ | refine BN (HC0.o _ ((lE _ _).mono S.x.1 fh)) ?_ | refine oM_ S 0 rfl (o:=1) (m:=128) (aw aX) (λi hi=>by show jQ (aX,c1) (1+i)=_;unfold jQ;rw[bX au,Nat.add_sub_cancel_left]) HZA.o ?_)
   |refine ew λW S=>?_)
       go_roundw
       case rel=>exact⟨k+1,au,by go_num,ae ⟨_,_,_,_,S.pop⟩⟩
       case measure=>exact uO
    . obtain rfl:k=m:=au;go_wp2;go_ret;exact⟨rfl,S.b⟩
theorem Rg:mN [1,0,2,0,64,0]=some ⟨64,[]⟩:=cm
theorem Rh: (iR (rq 64)).2=0:=by decide+kernel
theorem Ri:cZ (iR (rq 64)).1.s.mp=55:=by decide+kernel
theorem OT: (zn [1,0,2,0,64,0]).2=0/\(zn [1,0,2,0,64,0]).1.room=55:=by
 unfold zn;rw[Rg];refine⟨rfl,?_⟩;have h1: (zX ⟨64,[]⟩)=Sj (nU (iR (rq 64)),[]):=rfl;show(zX ⟨64,[]⟩).room=55;rw[h1];unfold nU;rw[bC Rh];exact Ri
section
open Go.Deep Go.ChangeShapes Go.WideShapes Go.ChangeAt
theorem fA {a b:Bool}(h:a=true)(g:b=true): (a&&b)=true:=by grind
theorem own:ownKnob prog.godebug=none:=cm
theorem laidOut:laidOutB prog=true:=cm
theorem aaC:prog.cellsOf 5=1:=cm
theorem Y9:mapsRowed prog=true:=cm
theorem Y': (prog.stops==[])=true:=cm
theorem Za: (prog.stopKnobs==[])=true:=cm
theorem Zb:prog.stopsHeard=true:=cm
theorem Zc:prog.mayEnter=true:=cm
theorem Zd:prog.liftsFinal=false:=cm
theorem aaD: (prog.make==some .cut)=true:=cm
section
variable {enc:dD×bh->H}
theorem XI {k:IntKind}{t:dD}(hu:prog.underlying t=some (.slice e))(he:prog.underlying e=some (.int k))(hc:prog.cellsOf e=1)(hsp: ∀b,spare b=true){a:Option Addr}{len:Nat}{d:DataW H}{p:List MemPlace}(h:DataW.trod enc prog w base spare held fuel t (Value.slice a len cap).cells.toList=some (d,p)):
 ∃l:List Int,br k w (.slice a len cap) l/\((a=none/\len=0/\cap=0)∨∃elems rest x,a=some x/\d=.slice elems rest/\elems.length=l.length):=by
 rcases open_slice hu h with⟨hcs,_⟩ | ⟨x,len',cap',m,n,D,Pl,hcs,_,hl,hm,hmm,hx,hel⟩
 . simp[Value.cells] at hcs;obtain⟨rfl,rfl,rfl⟩:=hcs;exact⟨[],xI k w,.inl ⟨rfl,rfl,rfl⟩⟩
 . simp[Value.cells] at hcs;obtain⟨rfl,rfl,rfl⟩:=hcs;rw[hsp,bC rfl] at hmm;subst hmm;rw[hc] at hel;have hE: ∀i,i<len->∃y:Int,w.cell? (x.add i)=some (.int k y)/\(Lit.int k y).wf=true/\(x.add i).block<w.heap.size/\(x.add i).spot=none:=by
    intro i hi;obtain⟨cs',hc1,hc2⟩:=hel i au;obtain⟨y,rfl,_,hw⟩:=DataW.trod_int he hc2;rw[wy] at hc1;have hcell:=cell_of_cells?_one hc1;exact⟨y,hcell,hw,vG hcell,World.cell?_spot hcell⟩
   let F:Nat->Int:=λi=>if hi:i<len then Classical.choose (hE i hi) else 0
   have hF: ∀i (hi:i<len),w.cell? (x.add i)=some (.int k (F i))/\(Lit.int k (F i)).wf=true/\(x.add i).block<w.heap.size/\(x.add i).spot=none:=by
    grind
   have hlen: ((range len).map F).length=len:=by simp
   refine⟨(range len).map F,⟨some x,_,by rw[hlen],by grind[maxLen],?_,?_⟩,.inr ⟨_,_,x,rfl,(Prod.mk.inj hx).1,by simp⟩⟩
   . grind
   . intro hne;have h00:0<len:=by
      grind
     obtain⟨b,o,sp⟩:=x;have hs:=(hF 0 h00).2.2;simp[Addr.add] at hs;obtain⟨hs1,rfl⟩:=hs;refine⟨b,o,rfl,hs1,λj hj=>?_⟩
     grind[Addr.add_lit]
end
end
section
open Go.ChangeShapes Go.WideShapes Go.ChangeAt
set_option linter.unusedVariables false
def xG:Prop:=∀(w:aD) (v0:bh) (l0:List Int),br .u8 w v0 l0->(v0=.slice none 0 0∨∃x n c,v0=.slice (some x) n c)->l0.length*1<=140737488351232->yr 3 #[v0] w (.bool true)
theorem BK (walk:xG)(os:Os)(started:os.Started)(H:Type)(enc:dD×bh->H):
 ReturnsInHanded {} checked os 3 .any (Rows.wholeBytesSpec.pre6 enc prog f3 Rows.wholeBytesRow.domain false) (Rows.wholeBytesSpec.post enc prog f3 false true false false):=by
 refine returnsInHanded_of_change_sized (C:=checked) own started (by as_aux_lemma=>kernel_rfl) func3
  (ChangeSpec.witness6 (enc:=enc) (C:=checked) false ⟨#[],#[.slice none 0 0],[]⟩ 8 pB pB (by as_aux_lemma=>kernel_rfl) pB) ?_
 intro W base args ds gs before hval0 hW hcnd hsz0 _;have hsz: (DataW.weightsEach prog (f3.params.toList++Rows.wholeBytesSpec.plain.varTypes prog) (ds++gs)).all (·<=reachBytes)=true:=hsz0;clear hsz0;have hval: ∀(j:Nat) t v,f3.params[j]? =some t->args[j]? =some v->Value.okWide prog W .any base t v:=hval0;have hW':=hW;obtain⟨p,q,hA0,hV,rfl,hfz,hnd⟩:=hW;have hA:DataW.TrodAll enc prog W 0 (λ_=>true) true f3.params.toList args.toList ds p:=hA0;rw[params3] at hA hval hsz;obtain⟨v0,vs0,d0,ds0,p0,q0,hargs,rfl,rfl,h0,r0⟩:=trodAll_cons hA;obtain⟨rfl,rfl,rfl⟩:=trodAll_nil r0;obtain rfl:args=#[v0]:=by grind
 obtain⟨rfl,rfl⟩:=trodVars_none hV;obtain⟨a0,len0,cap0,rfl⟩:=okWide_slice oC (hval 0 22 v0 rfl rfl);have k0:=h0;have lt0: ∀x∈p0,x.block<W.heap.size:=by obtain⟨m,hm⟩:=k0;exact DataW.trod_lt m _ _ _ hm
 obtain⟨l0,hv0,sh0⟩: ∃l,br .u8 W (.slice a0 len0 cap0) l/\((a0=none/\len0=0/\cap0=0)∨∃elems rest x,a0=some x/\d0=DataW.slice elems rest/\elems.length=l.length):=by
  obtain⟨fuel,hf⟩:=h0;exact XI oC FH aaC (λ_=>rfl) hf
 have hb0:l0.length*1<=140737488351232:=by
  have hvv:=hv0;obtain⟨ao,cp,he,_⟩:=hvv;rcases sh0 with⟨_,h,_⟩ | ⟨elems,rest,x,_,hd,hel⟩
  . grind
  . have:=sized_slice hsz (j:=0) (t:=22) (e:=5) (elems:=elems) (spare:=rest) rfl rE oC;rw[show prog.bytesOf 5=1 from by rfl] at this
    grind[reachBytes]
 have sv0:Value.slice a0 len0 cap0=.slice none 0 0∨∃x n c,Value.slice a0 len0 cap0=.slice (some x) n c:=by
  grind
 clear hA0 hval0;refine(walk W _ l0 hv0 sv0 hb0).mono λe W' ⟨he,bel⟩=>?_;subst he;exact⟨_,rfl,_,_,_,[],_,[],hW',trodAll_mk1 (shut_bool underlying4 _),(trodAll_cons_mk (Below.trod laidOut pB (lK pB) k0 bel lt0) trodAll_mk0),rfl,bel.frame _,λh=>by cases h⟩
theorem I': (λ(P:pw) (f:Rk) (fn:Func) (s:ChangeSpec) (c:OpenClaim)=>(c.wf (OpenSpec.ofChange s):Bool)) prog 3 f3 Rows.wholeBytesSpec Rows.wholeBytesRow=true:=cm
theorem Ja: (λ(P:pw) (f:Rk) (fn:Func) (s:ChangeSpec) (c:OpenClaim)=>(fn.params.all (P.readableRec ·):Bool)) prog 3 f3 Rows.wholeBytesSpec Rows.wholeBytesRow=true:=cm
theorem Jb: (λ(P:pw) (f:Rk) (fn:Func) (s:ChangeSpec) (c:OpenClaim)=>(namedTie P c.named s.vars:Bool)) prog 3 f3 Rows.wholeBytesSpec Rows.wholeBytesRow=true:=cm
theorem Jc: (λ(P:pw) (f:Rk) (fn:Func) (s:ChangeSpec) (c:OpenClaim)=>((c.stops==[]):Bool)) prog 3 f3 Rows.wholeBytesSpec Rows.wholeBytesRow=true:=cm
theorem Jd: (λ(P:pw) (f:Rk) (fn:Func) (s:ChangeSpec) (c:OpenClaim)=>((c.knobs==[]):Bool)) prog 3 f3 Rows.wholeBytesSpec Rows.wholeBytesRow=true:=cm
theorem Je: (λ(P:pw) (f:Rk) (fn:Func) (s:ChangeSpec) (c:OpenClaim)=>((c.inPlace==P.inPlace f):Bool)) prog 3 f3 Rows.wholeBytesSpec Rows.wholeBytesRow=true:=cm
theorem GW: (λ(P:pw) (f:Rk) (fn:Func) (s:ChangeSpec) (c:OpenClaim)=>((c.unfollowed==P.unfollowed f):Bool)) prog 3 f3 Rows.wholeBytesSpec Rows.wholeBytesRow=true:=cm
theorem GX: (λ(P:pw) (f:Rk) (fn:Func) (s:ChangeSpec) (c:OpenClaim)=>((c.recurses==P.recurses f):Bool)) prog 3 f3 Rows.wholeBytesSpec Rows.wholeBytesRow=true:=cm
theorem GY: (λ(P:pw) (f:Rk) (fn:Func) (s:ChangeSpec) (c:OpenClaim)=>((c.named==P.varsNamed f):Bool)) prog 3 f3 Rows.wholeBytesSpec Rows.wholeBytesRow=true:=cm
theorem GZ: (λ(P:pw) (f:Rk) (fn:Func) (s:ChangeSpec) (c:OpenClaim)=>((c.maps==(fn.params.toList++s.plain.varTypes P).any (P.mapsRec ·)):Bool)) prog 3 f3 Rows.wholeBytesSpec Rows.wholeBytesRow=true:=cm
theorem G0: (λ(P:pw) (f:Rk) (fn:Func) (s:ChangeSpec) (c:OpenClaim)=>((c.ifaces==(fn.params.toList++s.plain.varTypes P).any (P.ifacesRec ·)):Bool)) prog 3 f3 Rows.wholeBytesSpec Rows.wholeBytesRow=true:=cm
theorem G1: (λ(P:pw) (f:Rk) (fn:Func) (s:ChangeSpec) (c:OpenClaim)=>((c.mapsOut==P.mapsAmong fn.resultTypes.toList):Bool)) prog 3 f3 Rows.wholeBytesSpec Rows.wholeBytesRow=true:=cm
theorem G3: (λ(P:pw) (f:Rk) (fn:Func) (s:ChangeSpec) (c:OpenClaim)=>((c.loops==(fn.params.toList++s.plain.varTypes P).any (P.loopsFrom ·)):Bool)) prog 3 f3 Rows.wholeBytesSpec Rows.wholeBytesRow=true:=cm
theorem G4: (λ(P:pw) (f:Rk) (fn:Func) (s:ChangeSpec) (c:OpenClaim)=>((c.wideKeys==(fn.params.toList++s.plain.varTypes P++fn.resultTypes.toList).any (P.wideKeysFrom ·)):Bool)) prog 3 f3 Rows.wholeBytesSpec Rows.wholeBytesRow=true:=cm
theorem G5: (λ(P:pw) (f:Rk) (fn:Func) (s:ChangeSpec) (c:OpenClaim)=>(s.vars.all (P.varReadable ·):Bool)) prog 3 f3 Rows.wholeBytesSpec Rows.wholeBytesRow=true:=cm
theorem G6: (λ(P:pw) (f:Rk) (fn:Func) (s:ChangeSpec) (c:OpenClaim)=>(fn.resultTypes.all (λt=>P.readableRec t&&decide (t<P.types.size)):Bool)) prog 3 f3 Rows.wholeBytesSpec Rows.wholeBytesRow=true:=cm
theorem G7: (λ(P:pw) (f:Rk) (fn:Func) (s:ChangeSpec) (c:OpenClaim)=>((c.ifacesOut==fn.resultTypes.toList.any (P.ifacesRec ·)):Bool)) prog 3 f3 Rows.wholeBytesSpec Rows.wholeBytesRow=true:=cm
theorem G8: (λ(P:pw) (f:Rk) (fn:Func) (s:ChangeSpec) (c:OpenClaim)=>((c.loopsOut==fn.resultTypes.toList.any (P.loopsFrom ·)):Bool)) prog 3 f3 Rows.wholeBytesSpec Rows.wholeBytesRow=true:=cm
theorem G9: (λ(P:pw) (f:Rk) (fn:Func) (s:ChangeSpec) (c:OpenClaim)=>((c.plainKeys==P.plainKeys):Bool)) prog 3 f3 Rows.wholeBytesSpec Rows.wholeBytesRow=true:=cm
theorem G': (λ(P:pw) (f:Rk) (fn:Func) (s:ChangeSpec) (c:OpenClaim)=>(c.shortTexts.isNone:Bool)) prog 3 f3 Rows.wholeBytesSpec Rows.wholeBytesRow=true:=cm
theorem Ha: (λ(P:pw) (f:Rk) (fn:Func) (s:ChangeSpec) (c:OpenClaim)=>((c.kinds==(if c.domain.isEmpty then [] else fn.params.toList.map λt=>match P.underlying t with | some (.int k)=>some k | _=>none)):Bool)) prog 3 f3 Rows.wholeBytesSpec Rows.wholeBytesRow=true:=cm
theorem Hb: (λ(P:pw) (f:Rk) (fn:Func) (s:ChangeSpec) (c:OpenClaim)=>((c.pinned==c.pinnedBy):Bool)) prog 3 f3 Rows.wholeBytesSpec Rows.wholeBytesRow=true:=cm
theorem Hc: (λ(P:pw) (f:Rk) (fn:Func) (s:ChangeSpec) (c:OpenClaim)=>((c.veiled==(fn.params.toList++s.plain.varTypes P++fn.resultTypes.toList).any (P.veiledRec ·)):Bool)) prog 3 f3 Rows.wholeBytesSpec Rows.wholeBytesRow=true:=cm
theorem Hd: (λ(P:pw) (f:Rk) (fn:Func) (s:ChangeSpec) (c:OpenClaim)=>(c.veiledFits P fn.params.toList (fn.params.toList++s.plain.varTypes P++fn.resultTypes.toList):Bool)) prog 3 f3 Rows.wholeBytesSpec Rows.wholeBytesRow=true:=cm
theorem BL:joinedFacts prog 3 f3 Rows.wholeBytesSpec Rows.wholeBytesRow=true:=(fA (fA (fA (fA (fA (fA (fA (fA (fA (fA (fA (fA (fA (fA (fA (fA (fA (fA (fA (fA (fA (fA (fA (fA (fA (fA (fA (fA (fA (fA (fA I' laidOut) Y9) Ja) Jb) Jc) Y') Jd) Za) Je) GW) GX) GY) GZ) G0) G1) G3) G4) G5) G6) G7) G8) G9) G') Zb) Zc) (by show(false==prog.liftsFinal)=true;rw[Zd];rfl)) aaD) Ha) Hb) Hc) Hd)
theorem Jf (walk:xG):Rows.WholeBytesSaid:=
 OpenClaim.holds_of_wide 3 f3 rfl rfl rfl rfl rfl rfl rfl ⟨rfl,rfl,rfl,rfl,rfl⟩ rfl rfl rfl rfl rfl (by as_aux_lemma=>kernel_rfl) func3 BL
  (lK cm) (by unfold Func.isWrapper;first |(rw[bX dk_];exact⟨rfl,rfl⟩))
  (λos started H enc _=>BK walk os started H enc)
end
theorem wholeBytes_holds:Rows.WholeBytesSaid:=Jf λw v0 l0 h _ hb=>GV OT l0 au v0 w h
end Go.Proofs.YtklligbjoplbgaaGreat
