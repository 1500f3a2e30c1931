/- Part 4 of 15 of the proof of WholeBytes; no conditions. -/
import Derived.Test.YtklligbjoplbgaaGreatNac
import Derived.Laws.CopyRow
import Derived.Deep.DeepMust
import Derived.BigRegion
import Derived.Deep.MidRow
import Derived.Deep.QuietTactic
import Derived.BigQuiet
import Derived.DeepKeys
namespace Go.Proofs.YtklligbjoplbgaaGreat
set_option linter.all false
set_option maxRecDepth 100000
set_option maxHeartbeats 64000000
open Go.RowKit Lib List Nat _root_.Go.Proofs.Tryz
variable {A C:iw}{a:Act}{K:Act->aD->Prop}{R:Ending->aD->Prop}{Q:Exit->Act->aD->Prop}{fn:Func}{h h5:Head}{bs d rs s:aK}{ps:List (Nat×aK)}{xs:List bh}{B D E E3 E4 E6 M b base g i k n size sz:Nat}{nw:Nat->aK}{mp rm st:Nat->Nat}{l:Nat->aq}{f:Nat->bh}{o:Oper}{P:pw}{p q:aq}{T e t:dD}{v:bh}{W w w' w5:aD}
def Jg (i:Nat) (s:aK):Nat->bh:=λj=>if j=0 then .int .i64 i else aw s (j - 1)
theorem Rx (i:Nat)(s:aK): ∀j,(Jg i s j).oneCell'=true:=by intro j;unfold Jg;split <;> rfl
theorem Ym (i:Nat) (s:aK): (Value.int .i64 i:: (ah 128 (aw s)).toList)=(ah 129 (Jg i s)).toList:=by
 apply EU;intro j;rw[qx (xs:=ah 129 (Jg i s)),aF];cases j with
 | zero=>rfl
 | succ j=>
  rw[getElem?_cons_succ,qx (xs:=ah 128 (aw s)),aF];by_cases h:j<128
  . simp_all[Jg]
  grind
theorem Aw (ps:List (Nat×aK)) {k:Nat} (hk:k<ps.length) {j:Nat} (hj:j<129): (lG ps)[k*129+j]? =some (Jg ps[k].1 ps[k].2 j):=by
 induction ps generalizing k with
 | nil=>grind
 | cons p ps ih=>
  have e:lG (p::ps)=(ah 129 (Jg p.1 p.2)).toList++lG ps:=by
   grind[lG,Ym]
  rw[e];cases k with
  | zero=>
   rw[EY,rC,Vc (by grind[aj]),qx,aF,bC hj];rfl
  | succ k=>
   rw[Sw (by grind[aj]),p9,aj,show(k+1)*129+j - 129=k*129+j from by omega]
   grind
theorem B8 (h:w.ownsRow 0 129 129 v ps.length (lG ps)):
 ∃ao cap,v=.slice ao ps.length cap/\ps.length<=cap/\∀k (hk:k<ps.length),∃g,ao=some ⟨g,0,none⟩:=by
 rcases h.2 with⟨h1,h2⟩ | ⟨g,cap,cur,h1,h2,h3,h4,h5⟩<;>grind
theorem Fx {cap:Nat}(h:w.ownsRow 0 129 129 (.slice (some ⟨g,0,none⟩) ps.length cap) ps.length (lG ps))(hk:k<ps.length):
 w.rangeAt g (k*129) (ah 129 (Jg ps[k].1 ps[k].2)).toList:=by
 intro j v hv;rw[qx,aF] at hv;split at hv
 . next hj=>
   cases hv;rw[h.cellAt (k*129+j) au]
   grind[Aw]
 . cases hv
theorem sU: (prog.info? 129).map (·.size)=some 129:=cm
theorem JL (h:ag w E 129 129 (Jg i s))(hC:C=ah 128 (aw s)):w.rangeAt E 1 C.toList:=by
 intro j v hv;rw[hC,qx (xs:=ah 128 (aw s)),aF] at hv;split at hv
 . next hj=>
   cases hv;have:=ag.cell h (i:=1+j) au
   simp_all[Jg]
 . cases hv
theorem MQ (st:Nat->aK)(ps:List (Nat×aK))(hk:k<ps.length):uZ st (ps.take (k+1))=jw (uZ st (ps.take k)) ps[k].1 ps[k].2:=by
 grind[uZ,take_succ_eq_append_getElem]
theorem mC.alloc {w5:aD} {D:Nat} {h h5:Head} {st nw:Nat->aK} {ps:List (Nat×aK)} {w:aD} (m:mC w5 D h h5 st nw ps w) (hsz:w.heap.size<=w5.heap.size) (o:Obj):mC (w5.alloc o) D h h5 st nw ps w:=
 ⟨ag.alloc_old m.head o,ag.alloc_old m.dZ o,ag.alloc_old m.dX o,m.nr.alloc o,m.save.alloc hsz o,m.Tc,m.O7,m.Yk⟩
theorem mC.below {w6:aD}{st:Nat->aK}(m:mC w5 D h h5 st nw ps w)(hb:dp w5 w6):mC w6 D h h5 st nw ps w:=
 ⟨ag.below m.head hb,ag.below m.dZ hb,ag.below m.dX hb,fR m.nr hb,m.save.trans (jv.lk (hb.mono m.save.size) _),m.Tc,m.O7,m.Yk⟩
theorem mC.Ca {st:Nat->aK}(m:mC w5 D h h5 st nw ps w)(hap:h.sb≠h.nb)(q:Nat)(s:aK):
 mC (w5.setCells h.sb (q*128) (ah 128 (aw s)).toList) D h h5 (jw st q s) nw ps w:=by
 have hb:=ek.setCells h.sb (ah 128 (aw s)).toList (q*128) w5;refine⟨?_,m.dZ.put q s,?_,?_,?_,m.Tc,m.O7,m.Yk⟩
 . unfold dG ag;rw[hb.block D m.head.lt m.Tc];exact m.head
 . unfold eQ ag;rw[hb.block h.nb m.dX.lt (yl hap)];exact m.dX
 . exact jX m.nr (lQ m.nr (ag.ty m.dZ) nh) hb
 . exact⟨hb.os.trans m.save.os,hb.tape.trans m.save.tape,hb.output.trans m.save.output,kL m.save.size hb.size,λk hk hn=>(hb.block k (uj hk m.save.size) (λe=>hn (by grind[bY]))).trans (m.save.block k hk hn)⟩
theorem mC.Td {st:Nat->aK}(m:mC w5 D h h5 st nw ps w)(hap:h.sb≠h.nb)(q:Nat)(s:aK):
 mC (w5.setCells h.nb (q*128) (ah 128 (aw s)).toList) D h h5 st (jw nw q s) ps w:=by
 have hb:=ek.setCells h.nb (ah 128 (aw s)).toList (q*128) w5;refine⟨?_,?_,m.dX.put q s,?_,?_,m.Tc,m.O7,m.Yk⟩
 . unfold dG ag;rw[hb.block D m.head.lt m.O7];exact m.head
 . unfold eQ ag;rw[hb.block h.sb m.dZ.lt hap];exact m.dZ
 . exact jX m.nr (lQ m.nr (ag.ty m.dX) nh) hb
 . exact⟨hb.os.trans m.save.os,hb.tape.trans m.save.tape,hb.output.trans m.save.output,kL m.save.size hb.size,λk hk hn=>(hb.block k (uj hk m.save.size) (λe=>hn (by grind[bY]))).trans (m.save.block k hk hn)⟩
theorem mC.EA {h6:Head}{st:Nat->aK}{ps':List (Nat×aK)}(m:mC w5 D h h5 st nw ps w)(i:Nat)(v:bh)(hh: ∀j,j<6->(if j=i then v else jI h5 j)=jI h6 j)(hp:h6.pv=h5.pv/\ps'=ps∨h6.pv=.slice none 0 0/\ps'=[]):mC (w5.setCell ⟨D,i,none⟩ v) D h h6 st nw ps' w:=by
 refine⟨m.head.set i v hh,ag.sI m.dZ _ (yl m.Tc) _,ag.sI m.dX _ (yl m.O7) _,?_,m.save.setCell (.inl (by simp[bY])) i v,m.Tc,m.O7,?_⟩
 . rcases hp with⟨e1,e2⟩ | ⟨e1,e2⟩
   . rw[e1,e2];exact jX m.nr (lQ m.nr m.head.ty nh) (kA D w5 i v)
   grind[World.ownsRow_nil,lG]
 . rcases hp with⟨e1,e2⟩ | ⟨e1,e2⟩
   . rw[e1];exact m.Yk
   grind[Value.ownBlock]
theorem iG.mid {w3:aD}{h3:Head}{st:Nat->aK}(a:iG w D h st nw ps)(hh:dG w3 D h3)(hb:ek D w w3)(e:h3.pv=h.pv):mC w3 D h h3 st nw ps w:=by
 have tD:=a.head.ty;have ts:=ag.ty a.dZ;have tn:=ag.ty a.dX;have hDs:D≠h.sb:=λe=>by grind
 have hDn:D≠h.nb:=λe=>by grind
 refine⟨hh,?_,?_,?_,jv.me hb (eO _) (.inl (by simp[bY])),hDs,hDn,?_⟩
 . unfold eQ ag;rw[hb.block _ a.dZ.lt (yl hDs)];exact a.dZ
 . unfold eQ ag;rw[hb.block _ a.dX.lt (yl hDn)];exact a.dX
 . rw[e];exact jX a.nr (lQ a.nr tD nh) hb
 . rw[e];exact lQ a.nr tn nh
theorem mC.fin {st:Nat->aK}(m:mC w5 D h h5 st nw ps w)(hh:h5.n=h.n/\h5.sb=h.sb/\h5.nb=h.nb)(hap:h.sb≠h.nb)(hfew:h.n<=1024)(hin: ∀p∈ps,p.1<h.n):
 iG w5 D h5 st nw ps:=by
 obtain⟨e1,e2,e3⟩:=hh;refine⟨⟨m.head,by rw[e1,e2];exact m.dZ,by rw[e1,e3];exact m.dX,au,au⟩,m.nr,by grind⟩
theorem KD (D:Nat)(h:Head)(hl: -1<=h.left/\h.left<=9223372036854775807)(w:aD)(a:dG w D h)(hno: (fT (dS h)).2=false):
 Calls prog 226 #[.pointer (some ⟨D,0,none⟩)] w λe w'=>e=.returned (.int .i64 42)/\dG w' D (fT (dS h)).1/\ek D w w':=by
 have hl2: -1<=(dS h).left/\(dS h).left<=9223372036854775807:=by rw[(ik h).2.2.2.2.1];exact hl
 have HL:=ae hl2;clear hl2 hl;have HNO:=ae hno;clear hno;have HA:=ae a;clear a;go_enter func226,ntmps226
 go_wp2_with fail
 refine(uq D h _ HA.o).mono ?_;rintro e w1 ⟨rfl,hh1,hb1⟩;have HB1:=ae hb1;have HA1:=ae hh1;clear hh1 hb1
 go_wp2_with fail
 refine(xT D _ HL.o _ HA1.o).mono ?_;rw[HNO.o];rintro e w3 ⟨rfl,hh3,hb3⟩;have HB3:=ae (HB1.o.trans hb3);have HA3:=ae hh3;clear hh3 hb3
 go_wp2_with fail
 go_ret;exact⟨rfl,HA3.o,HB3.o⟩
theorem Ii (D:Nat)(h:Head)(st nw:Nat->aK)(ps:List (Nat×aK))(hl: -1<=h.left/\h.left<=9223372036854775807)(hps:ps.length<=1000000000)(w:aD)(a:iG w D h st nw ps)(hyes: (fT (dS h)).2=true):
 Calls prog 226 #[.pointer (some ⟨D,0,none⟩)] w λe w'=>e=.returned (.int .i64 0)/\iG w' D {(fT (dS h)).1 with pv:=.slice none 0 0} (uZ st ps) nw []/\jv w.heap.size (bY D h) w w':=by
 have hl2: -1<=(dS h).left/\(dS h).left<=9223372036854775807:=by rw[(ik h).2.2.2.2.1];exact hl
 have HL:=ae hl2;clear hl2 hl;have HYES:=ae hyes;clear hyes;have HV:=ae a;clear a;obtain⟨h3,hh3⟩:=cM ((fT (dS h)).1);rw[hh3];have hs3:h3.n=h.n/\h3.sb=h.sb/\h3.nb=h.nb/\h3.pv=h.pv:=by
  obtain⟨a1,a2,a3,a4⟩:=nX (dS h);obtain⟨b1,b2,b3,_,_,b4⟩:=ik h;rw[<-hh3];exact⟨a1.trans b1,a2.trans b2,a3.trans b3,a4.trans b4⟩
 have HH3:=ae hs3;clear hs3;have HH4:=ae hh3;clear hh3;go_enter func226,ntmps226
 go_wp2_with fail
 refine(uq D h _ HV.o.head).mono ?_;rintro e w1 ⟨rfl,hh1,hb1⟩;have HB1:=ae hb1;have HA1:=ae hh1;clear hh1 hb1
 go_wp2_with fail
 refine(xT D _ HL.o _ HA1.o).mono ?_;rw[HYES.o];rintro e w3 ⟨rfl,hh3,hb3⟩;have HB3:=ae (HB1.o.trans hb3);have HA3:=ae hh3;clear hh3 hb3 HA1 HB1;rw[HH4.o] at HA3;have hs3:=HH3.o;have hm:=HV.o.mid HA3.o HB3.o hs3.2.2.2;obtain⟨ao,cap,hpv,hcap,hao⟩:=B8 hm.nr;have c2:=hm.head.cells.2.2.1;rw[hpv] at c2;have HPV:=ae hpv;clear hpv;have HAO:=ae hao;clear hao;have HM:=ae hm;clear hm;obtain⟨sb,hsb⟩:=cM h.sb;obtain⟨nn,hnn⟩:=cM h.n;obtain⟨L,hL⟩:=cM ps.length;rw[hL] at c2 hcap hps;have hfew:=HV.o.mZ;rw[hnn] at hfew;have HSB:=ae hsb;clear hsb;have HNN:=ae hnn;clear hnn;have HLL:=ae hL;clear hL;clear hs3
 go_wp2_with fail
 go_loopw [15] (λc wr=>∃k:Nat,k<=L/\c=.int .i64 k/\Hid (mC wr D h h3 (uZ st (ps.take k)) nw ps w)) (λc _=>L - (intOf c).toNat)
 case atStart=>exact⟨0,kf _,rfl,HM.o⟩
 case round=>
  obtain⟨k,hk,rfl,hrel⟩:=hrel;by_cases hlt:k<L
  . obtain⟨g,hg⟩:=HAO.o k (by rw[HLL.o];exact hlt);subst hg;have hkp:k<ps.length:=by rw[HLL.o];exact hlt
    obtain⟨p,hp⟩:=cM (ps[k]);have hpend:=hrel.o.nr;rw[HPV.o] at hpend;have hrg:=Fx hpend hkp;have hstep:=MQ st ps hkp;have hin:=HV.o.inside p (by rw[<-hp];exact tW hkp);rw[hp] at hrg hstep;rw[HNN.o] at hin;obtain⟨i,s⟩:=p;simp only at hrg hstep hin;have HST:=ae hstep;clear hstep;have HP:=ae hp;clear hp hpend;obtain⟨A,hA⟩:=gq (ah 129 (Jg i s));rw[<-hA] at hrg;have hAs:A.toList.length=129:=by rw[hA,p9,aj]
    have HAA:=ae hA;clear hA;have HRG:=ae hrg;clear hrg;have HAS:=ae hAs;clear hAs;obtain⟨W6,h6⟩:=gq ((wr.alloc (.cells zeroCells129 129)).setRow wr.heap.size A);have hr6:ag W6 wr.heap.size 129 129 (Jg i s):=by
     rw[h6,HAA.o];exact setRow_heap _ _ _ _ _ _ (Ju _ _)
    have hB6:dp wr W6:=by rw[h6];exact below_setRow ((iU _ _).alloc (eO _) _) (eO _) _
    have H6:=ae h6;clear h6;have hm6:=hrel.o.below hB6;have c06:=hm6.head.cells.1;rw[HH3.o.2.1,HH3.o.1,HSB.o,HNN.o] at c06;have hsE:sb≠wr.heap.size:=by have:=hrel.o.dZ.lt;rw[HSB.o] at this;omega
    have hth:=hm6.dZ.there (q:=i) (by rw[HNN.o];exact hin);rw[HSB.o] at hth;have HTH:=ae hth;clear hth;have HM6:=ae hm6;clear hm6;have hB0:A.all (·.oneCell')=true:=by rw[HAA.o];exact iv _ (Rx i s)
    obtain⟨C,hC⟩:=gq (ah 128 (aw s));have hCs:C.size=128:=by rw[hC,aj]
    have hC1:C.all (·.oneCell')=true:=by rw[hC];exact iv _ (λ_=>rfl)
    have HC:=ae hC;clear hC;have HC1:=ae hC1;clear hC1;have HA1:=ae hB0;clear hB0;obtain⟨E,hE⟩:=cM wr.heap.size;rw[hE] at hr6 hsE;have HE:=ae hE;have hi0: (0:Int)<=(i:Int):=au;have hi1: (i:Int)< (nn:Int):=au;have hDE:D≠E:=by have:=hrel.o.head.lt;rw[<-hE];omega
    have hDs:D≠sb:=by have:=hrel.o.Tc;rw[HSB.o] at this;exact this
    clear hE
    go_upto_region 7 with(first |((with_reducible refine gO ⟨some 18,.load 129 (.tmp 17),_,_,_,none⟩ ?_);refine wpList_load_mid (op:=⟨some 18,.load 129 (.tmp 17),_,_,_,none⟩) rfl 129 (.tmp 17) rfl g (k*129) rfl A.toList _ HRG.o underlying129 rfl (by rw[HAS.o];exact sU) ?_;rw[CK]) |((with_reducible refine gO ⟨none,.store 129 (.tmp 4) (.tmp 18),_,_,_,none⟩ ?_);refine VL (o:=⟨none,.store 129 (.tmp 4) (.tmp 18),_,_,_,none⟩) rfl 129 (.tmp 4) (.tmp 18) rfl wr.heap.size A rfl rfl 129 zeroCells129 (Ju _ _) (by rw[<-p9,HAS.o];exact sU) (by rw[<-p9 (xs:=A),HAS.o];exact sJ) HA1.o ?_;rw[<-H6.o]))
    simp only[HE.o];have HR6:=ae hr6;clear hr6;have HS0:=ae (And.intro c06 HR6.o);clear c06;refine wp_region_held_drew (S:=λW=>W.cell? ⟨D,0,none⟩=some (.slice (s_ sb 0) nn nn)/\ag W E 129 129 (Jg i s)) cm HS0.o (λhS0=>?_);refine He 0 19 (bZ D 0) hS0 ?_;refine He 1 20 (bZ D 0) hS0 ?_;refine He 2 21 (bZ D 0) hS0 ?_;refine Yd 3 22 (.slice (s_ sb 0) nn nn) rfl (Or.inl ⟨cm,λw hw=>by have h1:=hw.1;go_simp⟩) hS0 ?_;refine He 4 23 (bZ E 0) hS0 ?_;refine Yd 5 24 (.int .i64 i) rfl (Or.inl ⟨cm,λw hw=>by have h1:w.cell? ⟨E,0,none⟩=some (.int .i64 i):=ag.cell hw.2 (i:=0) au;go_simp⟩) hS0 ?_;refine He 6 25 (bZ E 1) hS0 ?_;refine Yd 7 26 (.agg C) rfl (pS cm 36 (.tmp 25) pB E 1 pB C _ (λw hw=>JL hw.2 HC.o) Ep rfl (by rw[hCs];exact gk)) hS0 ?_;refine He 8 27 (bZ sb (i*128)) hS0 ?_;refine wpAnyH_ready (rs:=[9]) cm fh ?_;refine AllReadyH.cons (o:=⟨none,Op.store 36 (Operand.tmp 27) (Operand.tmp 26),0,_,_,none⟩) pB (λK hK=>lx rfl ?_) AllReadyH.nil;refine wp_store_mid 36 (.tmp 27) (.tmp 26) pB sb (i*128) C pB pB (by rw[hCs];exact HTH.o) (by rw[hCs];exact gk) HC1.o ?_;have hbc:=ek.setCells sb C.toList (i*128) W6.drew;have hS9: (W6.drew.setCells sb (i*128) C.toList).cell? ⟨D,0,none⟩=some (.slice (s_ sb 0) nn nn)/\ag (W6.drew.setCells sb (i*128) C.toList) E 129 129 (Jg i s):=
     ⟨by rw[z6 (w:=W6.drew) (hbc.block D HM6.o.head.lt hDs)];exact HS0.o.1,by unfold ag;rw[hbc.block E (ag.lt HR6.o) (yl hsE)];exact HR6.o⟩
    refine hK.out _ _ hS9 (λhSX=>?_);clear hSX hS9 hbc hS0;refine wpAnyH_done cm ?_ _;have hm7:=(HM6.o.drew).Ca HV.o.apart i s;rw[HSB.o,<-HC.o] at hm7;rw[<-HST.o] at hm7;have HM7:=ae hm7;clear hm7;generalize W6.drew.setCells sb (i*128) C.toList=w7 at*;go_wp2;go_roundw
    case rel=>exact⟨k+1,au,by go_num,HM7.o⟩
    case measure=>exact uO
  . obtain rfl:k=L:=au;have c2r:=hrel.o.head.cells.2.2.1;have f2r:=ag.frozen hrel.o.head 2;have hm8:=hrel.o.EA 2 (.slice none 0 0) (h6:={h3 with pv:=.slice none 0 0}) (ps':=[]) (KB h3 _) (.inr ⟨rfl,rfl⟩);rw[tX (by rw[HLL.o];exact eO _)] at hm8;have HM8:=ae hm8;clear hm8;go_wp2;go_ret;exact⟨rfl,HM8.o.fin ⟨HH3.o.1,HH3.o.2.1,HH3.o.2.2.1⟩ HV.o.apart HV.o.mZ fh,HM8.o.save⟩
def ar (w:aD) (T:dD) (sz:Nat) (v:bh) (n:Nat) (xs:List bh):Prop:=
 xs.length=n*sz/\∃ao cap,v=.slice ao n cap/\n<=cap/\cap<=maxLen/\
  (0<n->∃b o cs fl,ao=some ⟨b,o,none⟩/\w.heap[b]? =some (.cells cs T fl)/\∀j u,xs[j]? =some u->cs[o+j]? =some u)
theorem ar.nil (w:aD)(T:dD)(sz:Nat):ar w T sz (.slice none 0 0) 0 []:=⟨by simp,none,0,rfl,eO _,kf _,λh=>absurd h (Al _)⟩
theorem ar.aV (h:w.ownsRow base T sz v n xs):ar w T sz v n xs:=by
 refine⟨h.1,?_⟩;rcases h.2 with⟨rfl,rfl⟩ | ⟨g,cap,cur,rfl,_,hg,h1,h2,h3,h4⟩<;>grind
theorem ar.ty (h:ar w T sz v n xs)(hb:v.ownBlock=some b)(hn:0<n):du w b=some T:=by
 obtain⟨_,ao,cap,rfl,_,_,h2⟩:=h;obtain⟨g,o,cs,fl,rfl,hg,_⟩:=h2 hn;cases hb<;>grind[du]
theorem ar.bS (h:ar w T sz v n xs)(hk: ∀b,du w b=some T->w'.heap[b]? =w.heap[b]?):ar w' T sz v n xs:=by
 obtain⟨h1,ao,cap,rfl,h3,h4,h2⟩:=h;refine⟨h1,ao,cap,rfl,h3,h4,λhn=>?_⟩
 grind[du]
theorem ar.fr {d:Option Nat} {l:aK} {w w':aD} {T:dD} {sz:Nat} {v:bh} {n:Nat} {xs:List bh} (h:ar w T sz v n xs) (s:Fr d l w w') (h1:d=none∨fk T=false) (h2:df T=false):ar w' T sz v n xs:=
 h.bS λ_ hb=>s.bS hb h1 (.inl h2)
theorem ar.below (h:ar w T sz v n xs)(s:dp w w'):ar w' T sz v n xs:=
 h.bS λb hb=>s.block b (c7 hb)
theorem ar.but {w w':aD} {T t:dD} {sz:Nat} {v:bh} {n:Nat} {xs:List bh} (h:ar w T sz v n xs) {c:Nat} (s:ek c w w') (hc:du w c=some t) (hne:t≠T):ar w' T sz v n xs:=
 h.bS λb hb=>s.block b (c7 hb) rE
theorem ar.form (h:ar w T sz v n xs):
 ∃ao cap,v=.slice ao n cap/\n<=cap/\n<=maxLen/\∀k,k<n->∃b o,ao=some ⟨b,o,none⟩/\du w b=some T/\b<w.heap.size/\∀j u,xs[j]? =some u->w.cell? ⟨b,o+j,none⟩=some u:=by
 obtain⟨h1,ao,cap,rfl,h3,h4,h2⟩:=h;refine⟨ao,cap,rfl,h3,kL h3 h4,λk hk=>?_⟩
 grind[du,cell_of_row]
def rJ (l:List Bool):List bh:=l.map Value.bool
theorem Te {l:List Bool}(h:k<l.length): (rJ l)[k]? =some (.bool (l.getD k false)):=by
 grind[rJ]
def Cb (w:aD) (v:bh) (l:List Bool):Prop:=ar w 4 1 v l.length (rJ l)
theorem PN (bS:List Bool)(ps:List (Nat×aK))(p:Nat×aK): ∀(st:Nat->aK) (k:Nat),mU st bS k (ps++[p])=if bS.getD (k+ps.length) false=true then jw (mU st bS k ps) p.1 p.2 else mU st bS k ps:=by
 induction ps<;>grind[mU]
theorem PO (st:Nat->aK)(bS:List Bool)(ps:List (Nat×aK))(hk:k<ps.length):
 mU st bS 0 (ps.take (k+1))=if bS.getD k false=true then jw (mU st bS 0 (ps.take k)) ps[k].1 ps[k].2 else mU st bS 0 (ps.take k):=by
 rw[EW hk,PN,rC,pM,Jn au]
theorem yE (w:aD)(dT sT ty elem:dD)(g o dLen dCap:Nat)(a:Addr)(sLen sCap:Nat)(cur:iw)(t:dD)(cs:List bh)(sz n:Nat)(hu:P.underlying dT=some (.slice elem))(hs: (P.info? elem).map (·.size)=some sz)(hg:w.heap[g]? =some (.cells cur t (0,0)))(hn:n=Nat.min sLen dLen)(hcs:cs.length=n*sz)(hsrc: ∀j v,cs[j]? =some v->w.cell? (a.add j)=some v)(hfit:o+cs.length<=cur.size)(h1: ∀v∈cs,v.oneCell'=true):
 (Builtin.copy_ #[dT,sT] ty #[.slice (some ⟨g,o,none⟩) dLen dCap,.slice (some a) sLen sCap]).run P w=
  .ok (goInt n) (w.setRow g (cur.toList.take o++cs++cur.toList.drop (o+cs.length)).toArray):=by
 have hl:=run_loadCells_list (P:=P) w a cs hsrc;have hst:=run_storeCells_at P g o t cs 0 cur w hg au h1;cases hq:P.info? elem with
 | none=>grind
 | some i=>
  simp_all[Builtin.copy_,D7,Builtin.lenOf,Builtin.firstCells,sizeOf,typeInfo]
theorem Ij (d s:Operand)(dT sT:dD)(ho:o.op=.call {callee:=.builtin .copy,args:=#[d,s],argTypes:=#[dT,sT]})(elem:dD)(hu:P.underlying dT=some (.slice elem))(sz:Nat)(hsz: (P.info? elem).map (·.size)=some sz)(g n c h:Nat)(sc:Nat)(hd:a.eval d=.slice (some ⟨g,0,none⟩) n c)(hs:a.eval s=.slice (some ⟨h,0,none⟩) n sc)(t t':dD)(f f':Nat->bh)(hg:ag w g t (n*sz) f)(hh:ag w h t' (n*sz) f')(h1: ∀i,(f' i).oneCell'=true)(hk:K (a.put o.dst (goInt n)) (w.setRow g (ah (n*sz) f'))):o.wp P a w K Q:=by
 have hrun:=yE (P:=P) w dT sT o.type elem g 0 n c ⟨h,0,none⟩ n sc (ah (n*sz) f) t (ah (n*sz) f').toList sz n hu hsz hg fh (by grind[aj])
  (λj v hv=>by
   have hadd: (⟨h,0,none⟩:Addr).add j=⟨h,j,none⟩:=by grind[Addr.add]
   rw[hadd,cell_of_row w h j _ t' _ hh]
   grind) (by grind[aj]) (λv hv=>by
   obtain⟨j,hj,rfl⟩:=Jo.1 hv;have:=aF (n*sz) f' j
   grind)
 have e: ((ah (n*sz) f).toList.take 0++(ah (n*sz) f').toList++(ah (n*sz) f).toList.drop (0+ (ah (n*sz) f').toList.length)).toArray=ah (n*sz) f':=by
  grind[aj]
 rw[e] at hrun;unfold Oper.wp;simp[execOp,ho,resolve,invoke,builtin,hd,hs,hrun,Result.andThen];exact hk
theorem mC.aa7 {st st0 nw0:Nat->aK}{ps0:List (Nat×aK)}(m:mC w5 D h h5 st nw ps w)(a:iG w D h st0 nw0 ps0){l:List Bool}(hv:Cb w v l):Cb w5 v l:=
 ar.bS hv λb hb=>m.save.block b (c7 hb) λhm=>by
  obtain⟨t,ht,hd⟩:=a.VJ b hm;rw[hb] at ht;cases ht;exact absurd hd nh
theorem mC.PQ {st:Nat->aK}(m:mC w5 D h h5 st nw ps w)(hap:h.sb≠h.nb):
 mC (w5.setRow h.nb (ah (h.n*128) (yt st))) D h h5 st st ps w:=by
 have hb:ek h.nb w5 (w5.setRow h.nb (ah (h.n*128) (yt st))):=⟨rfl,rfl,rfl,by simp_all,λk hk hn=>Pj w5 h.nb k _ hn⟩;refine⟨?_,?_,ag.setRow m.dX _,?_,?_,m.Tc,m.O7,m.Yk⟩
 . unfold dG ag;rw[hb.block D m.head.lt m.O7];exact m.head
 . unfold eQ ag;rw[hb.block h.sb m.dZ.lt hap];exact m.dZ
 . exact jX m.nr (lQ m.nr (ag.ty m.dX) nh) hb
 . exact⟨hb.os.trans m.save.os,hb.tape.trans m.save.tape,hb.output.trans m.save.output,kL m.save.size hb.size,λk hk hn=>(hb.block k (uj hk m.save.size) (λe=>hn (by grind[bY]))).trans (m.save.block k hk hn)⟩
theorem Tf (D:Nat)(h:Head)(st nw:Nat->aK)(ps:List (Nat×aK))(bS:List Bool)(v:bh)(hps:ps.length<=1000000000)(w:aD)(a:iG w D h st nw ps)(hv:Cb w v bS):
 Calls prog 16 #[.pointer (some ⟨D,0,none⟩),v] w λe w'=>e=.returned (.tuple #[])/\iG w' D {h with pv:=.slice none 0 0,left:=-1,dead:=false} (mU st bS 0 ps) (mU st bS 0 ps) []/\jv w.heap.size (bY D h) w w':=by
 have HV:=ae a;clear a;have HB:=ae hv;obtain⟨bo,bcap,rfl,hbc,hbm,-⟩:=ar.form hv;clear hv;have hm:=HV.o.mid HV.o.head (ek.refl D w) rfl;obtain⟨ao,cap,hpv,hcap,hao⟩:=B8 hm.nr;have c2:=hm.head.cells.2.2.1;rw[hpv] at c2;have HPV:=ae hpv;clear hpv;have HAO:=ae hao;clear hao;have HM:=ae hm;clear hm;obtain⟨sb,hsb⟩:=cM h.sb;obtain⟨nb,hnb⟩:=cM h.nb;obtain⟨nn,hnn⟩:=cM h.n;obtain⟨L,hL⟩:=cM ps.length;obtain⟨M,hM⟩:=cM bS.length;rw[hL] at c2 hcap hps;rw[hM] at hbc hbm;have hfew:=HV.o.mZ;rw[hnn] at hfew;have HSB:=ae hsb;clear hsb;have HNB:=ae hnb;clear hnb;have HNN:=ae hnn;clear hnn;have HLL:=ae hL;clear hL;rw[hM];have HMM:=ae hM;clear hM;unfold maxLen at hbm;go_enter func16,ntmps16
 go_wp2_with fail
 go_loopw [11] (λc wr=>∃k:Nat,k<=L/\c=.int .i64 k/\Hid (mC wr D h h (mU st bS 0 (ps.take k)) nw ps w)) (λc _=>L - (intOf c).toNat)
 case atStart=>exact⟨0,kf _,rfl,HM.o⟩
 case round=>
  obtain⟨k,hk,rfl,hrel⟩:=hrel;by_cases hlt:k<L
  . obtain⟨g,hg⟩:=HAO.o k (by rw[HLL.o];exact hlt);subst hg;have hkp:k<ps.length:=by rw[HLL.o];exact hlt
    obtain⟨p,hp⟩:=cM (ps[k]);have hpend:=hrel.o.nr;rw[HPV.o] at hpend;have hrg:=Fx hpend hkp;have hstep:=PO st bS ps hkp;have hin:=HV.o.inside p (by rw[<-hp];exact tW hkp);rw[hp] at hrg hstep;rw[HNN.o] at hin;obtain⟨i,s⟩:=p;simp only at hrg hstep hin;have HST:=ae hstep;clear hstep;have HP:=ae hp;clear hp hpend;obtain⟨A,hA⟩:=gq (ah 129 (Jg i s));rw[<-hA] at hrg;have hAs:A.toList.length=129:=by rw[hA,p9,aj]
    have HAA:=ae hA;clear hA;have HRG:=ae hrg;clear hrg;have HAS:=ae hAs;clear hAs;obtain⟨W6,h6⟩:=gq ((wr.alloc (.cells zeroCells129 129)).setRow wr.heap.size A);have hr6:ag W6 wr.heap.size 129 129 (Jg i s):=by
     rw[h6,HAA.o];exact setRow_heap _ _ _ _ _ _ (Ju _ _)
    have hB6:dp wr W6:=by rw[h6];exact below_setRow ((iU _ _).alloc (eO _) _) (eO _) _
    have H6:=ae h6;clear h6;have hm6:=hrel.o.below hB6;have c06:=hm6.head.cells.1;rw[HSB.o,HNN.o] at c06;have hsE:sb≠wr.heap.size:=by have:=hrel.o.dZ.lt;rw[HSB.o] at this;omega
    have hth:=hm6.dZ.there (q:=i) (by rw[HNN.o];exact hin);rw[HSB.o] at hth;have HTH:=ae hth;clear hth;have hbb:=hm6.aa7 HV.o HB.o;have HM6:=ae hm6;clear hm6;have hB0:A.all (·.oneCell')=true:=by rw[HAA.o];exact iv _ (Rx i s)
    obtain⟨C,hC⟩:=gq (ah 128 (aw s));have hCs:C.size=128:=by rw[hC,aj]
    have hC1:C.all (·.oneCell')=true:=by rw[hC];exact iv _ (λ_=>rfl)
    have HC:=ae hC;clear hC;have HC1:=ae hC1;clear hC1;have HA1:=ae hB0;clear hB0;obtain⟨E,hE⟩:=cM wr.heap.size;rw[hE] at hr6 hsE;have HE:=ae hE;have hi0: (0:Int)<=(i:Int):=au;have hi1: (i:Int)< (nn:Int):=au;have hDE:D≠E:=by have:=hrel.o.head.lt;rw[<-hE];omega
    have hDs:D≠sb:=by have:=hrel.o.Tc;rw[HSB.o] at this;exact this
    have hk63: (k:Int)<9223372036854775807:=au;clear hE;by_cases hkM:k<M
    . obtain⟨ao',cap',e,-,-,hcell⟩:=ar.form hbb;cases e;obtain⟨b,o,rfl,-,-,hcell⟩:=hcell k (by rw[HMM.o];exact hkM);have ck:=hcell k _ (Te (by rw[HMM.o];exact hkM));clear hcell hbb;have HR6:=ae hr6;clear hr6;have HS0:=ae (And.intro c06 HR6.o);clear c06;obtain⟨q,hq⟩:=cM (bS.getD k false);rw[hq] at ck;have HQ:=ae hq;clear hq;rcases q with _ | _;have hst:=HST.o;rw[HQ.o,bX fh] at hst;have hm7:=HM6.o;rw[<-hst] at hm7;clear hst;have HM7:=ae hm7;clear hm7
      rotate_left
      go_upto_region 4 with(first |((with_reducible refine gO ⟨some 15,.load 129 (.tmp 14),_,_,_,none⟩ ?_);refine wpList_load_mid (op:=⟨some 15,.load 129 (.tmp 14),_,_,_,none⟩) rfl 129 (.tmp 14) rfl g (k*129) rfl A.toList _ HRG.o underlying129 rfl (by rw[HAS.o];exact sU) ?_;rw[CK]) |((with_reducible refine gO ⟨none,.store 129 (.tmp 5) (.tmp 15),_,_,_,none⟩ ?_);refine VL (o:=⟨none,.store 129 (.tmp 5) (.tmp 15),_,_,_,none⟩) rfl 129 (.tmp 5) (.tmp 15) rfl wr.heap.size A rfl rfl 129 zeroCells129 (Ju _ _) (by rw[<-p9,HAS.o];exact sU) (by rw[<-p9 (xs:=A),HAS.o];exact sJ) HA1.o ?_;rw[<-H6.o]))
      simp only[HE.o];refine wp_region_held_drew (S:=λW=>W.cell? ⟨D,0,none⟩=some (.slice (s_ sb 0) nn nn)/\ag W E 129 129 (Jg i s)) cm HS0.o (λhS0=>?_);refine He 0 26 (bZ D 0) hS0 ?_;refine He 1 27 (bZ D 0) hS0 ?_;refine He 2 28 (bZ D 0) hS0 ?_;refine Yd 3 29 (.slice (s_ sb 0) nn nn) rfl (Or.inl ⟨cm,λw hw=>by have h1:=hw.1;go_simp⟩) hS0 ?_;refine He 4 30 (bZ E 0) hS0 ?_;refine Yd 5 31 (.int .i64 i) rfl (Or.inl ⟨cm,λw hw=>by have h1:w.cell? ⟨E,0,none⟩=some (.int .i64 i):=ag.cell hw.2 (i:=0) au;go_simp⟩) hS0 ?_;refine He 6 32 (bZ E 1) hS0 ?_;refine Yd 7 33 (.agg C) rfl (pS cm 36 (.tmp 32) pB E 1 pB C _ (λw hw=>JL hw.2 HC.o) Ep rfl (by rw[hCs];exact gk)) hS0 ?_;refine He 8 34 (bZ sb (i*128)) hS0 ?_;refine wpAnyH_ready (rs:=[9]) cm fh ?_;refine AllReadyH.cons (o:=⟨none,Op.store 36 (Operand.tmp 34) (Operand.tmp 33),0,_,_,none⟩) pB (λK hK=>lx rfl ?_) AllReadyH.nil;refine wp_store_mid 36 (.tmp 34) (.tmp 33) pB sb (i*128) C pB pB (by rw[hCs];exact HTH.o) (by rw[hCs];exact gk) HC1.o ?_;have hbc:=ek.setCells sb C.toList (i*128) W6.drew;have hS9: (W6.drew.setCells sb (i*128) C.toList).cell? ⟨D,0,none⟩=some (.slice (s_ sb 0) nn nn)/\ag (W6.drew.setCells sb (i*128) C.toList) E 129 129 (Jg i s):=
       ⟨by rw[z6 (w:=W6.drew) (hbc.block D HM6.o.head.lt hDs)];exact HS0.o.1,by unfold ag;rw[hbc.block E (ag.lt HR6.o) (yl hsE)];exact HR6.o⟩
      refine hK.out _ _ hS9 (λhSX=>?_);clear hSX hS9 hbc hS0;refine wpAnyH_done cm ?_ _;have hm7:=(HM6.o.drew).Ca HV.o.apart i s;rw[HSB.o,<-HC.o] at hm7;have hst:=HST.o;rw[HQ.o,bC rfl] at hst;rw[<-hst] at hm7;clear hst;have HM7:=ae hm7;clear hm7;generalize W6.drew.setCells sb (i*128) C.toList=w7 at*
      all_goals
       go_wp2_with (first
   |((with_reducible refine gO ⟨some 15,.load 129 (.tmp 14),_,_,_,none⟩ ?_);refine wpList_load_mid (op:=⟨some 15,.load 129 (.tmp 14),_,_,_,none⟩) rfl 129 (.tmp 14) rfl g (k*129) rfl A.toList _ HRG.o underlying129 rfl (by rw[HAS.o];exact sU) ?_;rw[CK])
   |((with_reducible refine gO ⟨none,.store 129 (.tmp 5) (.tmp 15),_,_,_,none⟩ ?_);refine VL (o:=⟨none,.store 129 (.tmp 5) (.tmp 15),_,_,_,none⟩) rfl 129 (.tmp 5) (.tmp 15) rfl wr.heap.size A rfl rfl 129 zeroCells129 (Ju _ _) (by rw[<-p9,HAS.o];exact sU) (by rw[<-p9 (xs:=A),HAS.o];exact sJ) HA1.o ?_;rw[<-H6.o]))
       go_roundw
       case rel=>exact⟨k+1,au,by go_num,HM7.o⟩
       case measure=>exact uO
    . have hst:=HST.o;have hq:bS.getD k false=false:=by rw[DZ,getElem?_eq_none (by rw[HMM.o];omega)];rfl
      rw[hq,bX fh] at hst;have hm7:=HM6.o;rw[<-hst] at hm7;clear hst hq hbb hr6 c06;have HM7:=ae hm7;clear hm7
      go_wp2_with (first |((with_reducible refine gO ⟨some 15,.load 129 (.tmp 14),_,_,_,none⟩ ?_);refine wpList_load_mid (op:=⟨some 15,.load 129 (.tmp 14),_,_,_,none⟩) rfl 129 (.tmp 14) rfl g (k*129) rfl A.toList _ HRG.o underlying129 rfl (by rw[HAS.o];exact sU) ?_;rw[CK]) |((with_reducible refine gO ⟨none,.store 129 (.tmp 5) (.tmp 15),_,_,_,none⟩ ?_);refine VL (o:=⟨none,.store 129 (.tmp 5) (.tmp 15),_,_,_,none⟩) rfl 129 (.tmp 5) (.tmp 15) rfl wr.heap.size A rfl rfl 129 zeroCells129 (Ju _ _) (by rw[<-p9,HAS.o];exact sU) (by rw[<-p9 (xs:=A),HAS.o];exact sJ) HA1.o ?_;rw[<-H6.o]))
      go_roundw
      case rel=>exact⟨k+1,au,by go_num,HM7.o⟩
      case measure=>exact uO
  . obtain rfl:k=L:=au;have c2r:=hrel.o.head.cells.2.2.1;have f2r:=ag.frozen hrel.o.head 2;have hm8:=hrel.o.EA 2 (.slice none 0 0) (h6:={h with pv:=.slice none 0 0}) (ps':=[]) (KB h _) (.inr ⟨rfl,rfl⟩);rw[tX (by rw[HLL.o];exact eO _)] at hm8;have HM8:=ae hm8;clear hm8;clear c2
    go_upto_region 7 with(fail)
    clear c2r f2r;generalize wr.setCell ⟨D,2,none⟩ (.slice none 0 0)=w8 at*;have c0:=HM8.o.head.cells.1;have c1:=HM8.o.head.cells.2.1;simp only[HSB.o,HNN.o] at c0;simp only[HNB.o,HNN.o] at c1;refine wp_region_held_drew (S:=λW=>W.cell? ⟨D,0,none⟩=some (.slice (s_ sb 0) nn nn)/\W.cell? ⟨D,1,none⟩=some (.slice (s_ nb 0) nn nn)) cm ⟨c0,c1⟩ (λhS0=>?_);refine He 0 39 (bZ D 0) hS0 ?_;refine He 1 40 (bZ D 0) hS0 ?_;refine He 2 41 (bZ D 1) hS0 ?_;refine Yd 3 42 (.slice (s_ nb 0) nn nn) rfl (Or.inl ⟨cm,λw hw=>by have h1:=hw.2;go_simp⟩) hS0 ?_;refine He 4 43 (bZ D 0) hS0 ?_;refine He 5 44 (bZ D 0) hS0 ?_;refine He 6 45 (bZ D 0) hS0 ?_;refine Yd 7 46 (.slice (s_ sb 0) nn nn) rfl (Or.inl ⟨cm,λw hw=>by have h1:=hw.1;go_simp⟩) hS0 ?_;refine wpAnyH_ready (rs:=[8]) cm fh ?_;refine AllReadyH.cons (o:=⟨some 47,Op.call {callee:=Callee.builtin Builtin.copy,args:=#[Operand.tmp 42,Operand.tmp 46],argTypes:=#[124,124]},3,_,_,none⟩) pB (λK hK=>lx rfl ?_) AllReadyH.nil;have hs8:=HM8.o.dZ;have hn8:=HM8.o.dX;rw[HSB.o,HNN.o] at hs8;rw[HNB.o,HNN.o] at hn8;refine Ij (.tmp 42) (.tmp 46) 124 124 pB 36 underlying124 128 gk nb nn nn sb nn pB pB 36 36 (yt nw) (yt (mU st bS 0 ps)) hn8 hs8 (λ_=>rfl) ?_;simp only[ax];have hS9: (w8.drew.setRow nb (ah (nn*128) (yt (mU st bS 0 ps)))).cell? ⟨D,0,none⟩=some (.slice (s_ sb 0) nn nn)/\(w8.drew.setRow nb (ah (nn*128) (yt (mU st bS 0 ps)))).cell? ⟨D,1,none⟩=some (.slice (s_ nb 0) nn nn):=by
     have hD:D≠nb:=by have:=HM8.o.O7;rw[HNB.o] at this;exact this
     have e:=Pj w8.drew nb D (ah (nn*128) (yt (mU st bS 0 ps))) hD;rw[z6 (w:=w8.drew) (a:=⟨D,0,none⟩) e,z6 (w:=w8.drew) (a:=⟨D,1,none⟩) e];exact⟨c0,c1⟩
    refine hK.out _ _ hS9 (λhSX=>?_);clear hSX hS9 hs8 hn8 hS0 c0 c1;refine wpAnyH_done cm ?_ _;have hm9:=(HM8.o.drew).PQ HV.o.apart;have e9:w8.drew.setRow h.nb (ah (h.n*128) (yt (mU st bS 0 ps)))=w8.drew.setRow nb (ah (nn*128) (yt (mU st bS 0 ps))):=by rw[HNB.o,HNN.o]
    rw[e9] at hm9;clear e9;have c4:=hm9.head.cells.2.2.2.2.1;have f4:=ag.frozen hm9.head 4;have c5:=hm9.head.cells.2.2.2.2.2;have f5:=ag.frozen hm9.head 5;have hm10:=hm9.EA 4 (.int .i64 (-1)) (h6:={h with pv:=.slice none 0 0,left:=-1}) (ps':=[]) (xS {h with pv:=.slice none 0 0} (-1)) (.inl ⟨rfl,rfl⟩);have hm11:=hm10.EA 5 (.bool false) (h6:={h with pv:=.slice none 0 0,left:=-1,dead:=false}) (ps':=[]) (JI {h with pv:=.slice none 0 0,left:=-1} false) (.inl ⟨rfl,rfl⟩);clear hm9 hm10;have HM11:=ae hm11;clear hm11;generalize w8.drew.setRow nb (ah (nn*128) (yt (mU st bS 0 ps)))=w9 at*;go_wp2
    go_end0
    exact⟨rfl,HM11.o.fin ⟨rfl,rfl,rfl⟩ HV.o.apart HV.o.mZ fh,HM11.o.save⟩
def wq:List bh->Nat->List bh->List bh
 | xs,_,[]=>xs
 | xs,o,v::r=>wq (xs.set o v) (o+1) r
theorem sV: ∀(vs:List bh) (xs:List bh) (o:Nat),(wq xs o vs).length=xs.length
 | [],_,_=>rfl
 | v::r,xs,o=>by unfold wq;rw[sV r];simp
theorem qi: ∀(vs:List bh) (xs:List bh) (o j:Nat),o+vs.length<=xs.length->(wq xs o vs)[j]? =if o<=j/\j<o+vs.length then vs[j - o]? else xs[j]?
 | [],xs,o,j,_=>by simp_all[bX,wq]
 | v::r,xs,o,j,h=>by
  simp only[o8] at h ⊢;unfold wq;rw[qi r (xs.set o v) (o+1) j (by simp;omega)]
  grind
theorem lA {base e size n cap g:Nat}: ∀(vs:List bh) (o:Nat) {w:aD} {xs:List bh},w.ownsRow base e size (.slice (some ⟨g,0,none⟩) n cap) n xs->
 (w.setCells g o vs).ownsRow base e size (.slice (some ⟨g,0,none⟩) n cap) n (wq xs o vs)
 | [],_,_,_,h=>h
 | v::r,o,w,xs,h=>by
  rw[World.setCells];unfold wq;exact lA r (o+1) (h.stored o v).1
theorem JM (ps:List (Nat×aK))(j:Nat): (lG ps)[j]? =if h:j / 129<ps.length then some (Jg (ps[j / 129]'h).1 (ps[j / 129]'h).2 (j % 129)) else none:=by
 by_cases h:j / 129<ps.length
 . rw[dif_pos h];have:=Aw ps h (j:=j % 129) au
   grind
 . rw[dif_neg h,getElem?_eq_none]
   grind[JJ]
theorem Tg (ps:List (Nat×aK)) {k:Nat} (hk:k<ps.length) (s:aK):wq (lG ps) (k*129+1) (ah 128 (aw s)).toList=lG (ps.set k (ps[k].1,s)):=by
 apply EU;intro j;rw[qi _ _ _ _ (by grind[aj,JJ]),p9,aj,JM,JM,qx (xs:=ah 128 (aw s)),aF];by_cases hj:j / 129<ps.length
 . rw[dif_pos hj,dif_pos rE];by_cases hjk:j / 129=k
   . subst hjk;simp only[getElem_set_self];by_cases h1:j / 129*129+1<=j/\j<j / 129*129+1+128
     . rw[bC h1,bC au];unfold Jg
       grind
     . rw[bX h1];unfold Jg
       grind
   grind
 grind
def mB (ps:List (Nat×aK)) (q:Nat) (s:aK) (k:Nat):List (Nat×aK):=(ps.take k).map (λp=>if p.1=q then(p.1,s) else p)++ps.drop k
theorem Ax (ps:List (Nat×aK))(q:Nat)(s:aK)(k:Nat): (mB ps q s k).length=ps.length:=by
 grind[mB]
theorem VO (ps:List (Nat×aK))(q:Nat)(s:aK)(hk:k<ps.length)(h:k< (mB ps q s k).length): (mB ps q s k)[k]=ps[k]:=by
 have e: (mB ps q s k)[k]? =some ps[k]:=by
  unfold mB
  grind
 grind
theorem PR (ps:List (Nat×aK))(q:Nat)(s:aK)(hk:k<ps.length):
 mB ps q s (k+1)=if ps[k].1=q then(mB ps q s k).set k (ps[k].1,s) else mB ps q s k:=by
 unfold mB;rw[EW hk,pt,Hh];have hl: ((ps.take k).map (λp=>if p.1=q then(p.1,s) else p)).length=k:=by simp;omega
 by_cases h:ps[k].1=q
 . rw[bC h,set_append,bX au,hl,Nat.sub_self]
   grind[drop_eq_getElem_cons]
 simp_all
theorem Th (ps:List (Nat×aK))(q:Nat)(s:aK):mB ps q s ps.length=ps.map (λp=>if p.1=q then(p.1,s) else p):=by
 grind[mB]
theorem mC.Yn {st:Nat->aK}(m:mC w5 D h h5 st nw ps w){cap:Nat}(hpv:h5.pv=.slice (some ⟨g,0,none⟩) ps.length cap)(hg:h.pv.ownBlock=some g)(hk:k<ps.length)(s:aK):
 mC (w5.setCells g (k*129+1) (ah 128 (aw s)).toList) D h h5 st nw (ps.set k (ps[k].1,s)) w:=by
 have hb:=ek.setCells g (ah 128 (aw s)).toList (k*129+1) w5;have hp:=m.nr;rw[hpv] at hp;have tg:du w5 g=some 129:=lP hp rfl;have ne: ∀{b:Nat} {t:dD},du w5 b=some t->t≠129->b≠g:=λhb ht e=>by grind
 refine⟨?_,?_,?_,?_,?_,m.Tc,m.O7,m.Yk⟩
 . unfold dG ag;rw[hb.block D m.head.lt (ne m.head.ty nh)];exact m.head
 . unfold eQ ag;rw[hb.block h.sb m.dZ.lt (ne (ag.ty m.dZ) nh)];exact m.dZ
 . unfold eQ ag;rw[hb.block h.nb m.dX.lt (ne (ag.ty m.dX) nh)];exact m.dX
 . have:=lA (ah 128 (aw s)).toList (k*129+1) hp
   grind[Tg]
 . exact⟨hb.os.trans m.save.os,hb.tape.trans m.save.tape,hb.output.trans m.save.output,kL m.save.size hb.size,λk hk hn=>(hb.block k (uj hk m.save.size) (λe=>hn (by grind[bY]))).trans (m.save.block k hk hn)⟩
theorem PT {cap:Nat}(h:w.ownsRow 0 129 129 (.slice (some ⟨g,0,none⟩) ps.length cap) ps.length (lG ps))(hk:k<ps.length):w.there g (k*129+1) 128:=λj hj=>
 ⟨by
  rw[h.cellAt (k*129+1+j) au,show k*129+1+j=k*129+ (1+j) from by omega,Aw ps hk au];rfl,h.frozenAt _⟩
theorem PU (D:Nat)(h:Head)(i:Int)(A:iw)(w:aD)(a:dG w D h)(hno:sw h i=false):
 yr 138 #[.pointer (some ⟨D,0,none⟩),.int .i64 i,.agg A] w (.int .i64 41):=by
 obtain⟨W0,HW0⟩:=BU (w.alloc (.cells A 36));have hB0:dp w W0:=by rw[HW0.o];exact(iU _ _).alloc (eO _) _
 have ha0:dG W0 D h:=ag.below a hB0;have HNO:=ae hno;clear hno;have HA0:=ae ha0;clear ha0 a;go_enter func138,ntmps138
 go_wp2_with fail
 rw[<-HW0.o];refine(zp D _ _ _ HA0.o).mono ?_;rw[HNO.o];rintro e w2 ⟨rfl,rfl⟩
 go_wp2_with fail
 go_ret;exact⟨rfl,hB0⟩
theorem MR (D:Nat)(h:Head)(st nw:Nat->aK)(ps:List (Nat×aK))(hps:ps.length<=1000000000)(q:Nat)(s:aK)(A:iw)(hA:A=ah 128 (aw s))(w:aD)(a:iG w D h st nw ps)(hq:q<h.n):
 Calls prog 138 #[.pointer (some ⟨D,0,none⟩),.int .i64 q,.agg A] w λe w'=>
  e=.returned (.int .i64 0)/\iG w' D h (jw st q s) (jw nw q s) (ps.map λp=>if p.1=q then(p.1,s) else p)/\jv w.heap.size (bY D h) w w':=by
 obtain⟨W0,hW0⟩:=gq (w.alloc (.cells A 36));have hB0:dp w W0:=by rw[hW0];exact(iU _ _).alloc (eO _) _
 have hr0:ag W0 w.heap.size 36 128 (aw s):=by rw[hW0,hA];exact ag.alloc _ _ _ _
 have hm0:=(a.mid a.head (ek.refl D w) rfl).below hB0;have HV:=ae a;clear a;have HAA:=ae hA;clear hA;have HW0:=ae hW0;clear hW0;obtain⟨ao,cap,hpv,hcap,hao⟩:=B8 hm0.nr;have HPV:=ae hpv;clear hpv;have HAO:=ae hao;clear hao;obtain⟨sb,hsb⟩:=cM h.sb;obtain⟨nb,hnb⟩:=cM h.nb;obtain⟨nn,hnn⟩:=cM h.n;obtain⟨L,hL⟩:=cM ps.length;have hfew:=HV.o.mZ;rw[hnn] at hfew;have hq1: (q:Int)< (nn:Int):=au;have hq0: (0:Int)<=(q:Int):=au;have c0:=hm0.head.cells.1;rw[hsb,hnn] at c0;have hAs:A.size=128:=by rw[HAA.o,aj]
 have hA1:A.all (·.oneCell')=true:=by rw[HAA.o];exact iv _ (λ_=>rfl)
 have HA1:=ae hA1;clear hA1;have hDs:D≠sb:=by have:=hm0.Tc;rw[hsb] at this;exact this
 have hDn:D≠nb:=by have:=hm0.O7;rw[hnb] at this;exact this
 have hEs:w.heap.size≠sb:=by have:=HV.o.dZ.lt;rw[hsb] at this;omega
 have hEn:w.heap.size≠nb:=by have:=HV.o.dX.lt;rw[hnb] at this;omega
 have hth:=hm0.dZ.there hq;rw[hsb] at hth;have HTH:=ae hth;clear hth;have HM0:=ae hm0;clear hm0;obtain⟨E,hE⟩:=cM w.heap.size;rw[hE] at hr0 hEs hEn;have HE:=ae hE;clear hE;have HR0:=ae hr0;clear hr0;have hhas:sw h (q:Int)=true:=ly ⟨au,au⟩;have HHAS:=ae hhas;clear hhas;have HSB:=ae hsb;clear hsb;have HNB:=ae hnb;clear hnb;have HNN:=ae hnn;clear hnn;rw[hL] at hcap hps;have HLL:=ae hL;clear hL;go_enter func138,ntmps138
 go_wp2_with fail
 rw[<-HW0.o];refine(zp D _ _ _ HM0.o.head).mono ?_;rw[HHAS.o];rintro e w2 ⟨rfl,rfl⟩
 go_upto_region 3 with(fail)
 simp only[HE.o];refine wp_region_held_drew (S:=λW=>W.cell? ⟨D,0,none⟩=some (.slice (s_ sb 0) nn nn)/\ag W E 36 128 (aw s)) cm ⟨c0,HR0.o⟩ (λhS0=>?_);refine He 0 12 (bZ D 0) hS0 ?_;refine He 1 13 (bZ D 0) hS0 ?_;refine He 2 14 (bZ D 0) hS0 ?_;refine Yd 3 15 (.slice (s_ sb 0) nn nn) rfl (Or.inl ⟨cm,λw hw=>by have h1:=hw.1;go_simp⟩) hS0 ?_;refine He 4 16 (.int .i64 q) hS0 ?_;refine Yd 5 17 (.agg A) rfl (mz cm 36 (.tmp 5) pB E 128 36 (aw s) pB A HAA.o _ (λw h=>h.2) Ep rfl gk) hS0 ?_;refine He 6 18 (bZ sb (q*128)) hS0 ?_;refine wpAnyH_ready (rs:=[7]) cm fh ?_;refine AllReadyH.cons (o:=⟨none,Op.store 36 (Operand.tmp 18) (Operand.tmp 17),0,_,_,none⟩) pB (λK hK=>lx rfl ?_) AllReadyH.nil;refine wp_store_mid 36 (.tmp 18) (.tmp 17) pB sb (q*128) A pB pB (by rw[hAs];exact HTH.o) (by rw[hAs];exact gk) HA1.o ?_;have hbc:=ek.setCells sb A.toList (q*128) W0.drew;have hS9: (W0.drew.setCells sb (q*128) A.toList).cell? ⟨D,0,none⟩=some (.slice (s_ sb 0) nn nn)/\ag (W0.drew.setCells sb (q*128) A.toList) E 36 128 (aw s):=
  ⟨by rw[z6 (w:=W0.drew) (hbc.block D HM0.o.head.lt hDs)];exact hS0.1,by unfold ag;rw[hbc.block E (ag.lt HR0.o) hEs];exact hS0.2⟩
 refine hK.out _ _ hS9 (λhSX=>?_);clear hSX hS9 hbc hS0;refine wpAnyH_done cm ?_ _;have hm1:=(HM0.o.drew).Ca HV.o.apart q s;rw[HSB.o,<-HAA.o] at hm1;have hr1:ag (W0.drew.setCells sb (q*128) A.toList) E 36 128 (aw s):=by
  unfold ag;rw[(ek.setCells sb A.toList (q*128) W0.drew).block E (ag.lt HR0.o) hEs];exact HR0.o
 generalize W0.drew.setCells sb (q*128) A.toList=w3 at*;have hth:=hm1.dX.there hq;rw[HNB.o] at hth;have HTH1:=ae hth;clear hth;have c1:=hm1.head.cells.2.1;rw[HNB.o,HNN.o] at c1;have HM1:=ae hm1;clear hm1;have HR1:=ae hr1;clear hr1;clear c0
 go_upto_region 4 with(fail)
 refine wp_region_held_drew (S:=λW=>W.cell? ⟨D,1,none⟩=some (.slice (s_ nb 0) nn nn)/\ag W E 36 128 (aw s)) cm ⟨c1,HR1.o⟩ (λhS0=>?_);refine He 0 19 (bZ D 0) hS0 ?_;refine He 1 20 (bZ D 0) hS0 ?_;refine He 2 21 (bZ D 1) hS0 ?_;refine Yd 3 22 (.slice (s_ nb 0) nn nn) rfl (Or.inl ⟨cm,λw hw=>by have h1:=hw.1;go_simp⟩) hS0 ?_;refine He 4 23 (.int .i64 q) hS0 ?_;refine Yd 5 24 (.agg A) rfl (mz cm 36 (.tmp 5) pB E 128 36 (aw s) pB A HAA.o _ (λw h=>h.2) Ep rfl gk) hS0 ?_;refine He 6 25 (bZ nb (q*128)) hS0 ?_;refine wpAnyH_ready (rs:=[7]) cm fh ?_;refine AllReadyH.cons (o:=⟨none,Op.store 36 (Operand.tmp 25) (Operand.tmp 24),0,_,_,none⟩) pB (λK hK=>lx rfl ?_) AllReadyH.nil;refine wp_store_mid 36 (.tmp 25) (.tmp 24) pB nb (q*128) A pB pB (by rw[hAs];exact HTH1.o) (by rw[hAs];exact gk) HA1.o ?_;have hbc:=ek.setCells nb A.toList (q*128) w3.drew;have hS9: (w3.drew.setCells nb (q*128) A.toList).cell? ⟨D,1,none⟩=some (.slice (s_ nb 0) nn nn)/\ag (w3.drew.setCells nb (q*128) A.toList) E 36 128 (aw s):=
  ⟨by rw[z6 (w:=w3.drew) (hbc.block D HM1.o.head.lt hDn)];exact hS0.1,by unfold ag;rw[hbc.block E (ag.lt HR1.o) hEn];exact hS0.2⟩
 refine hK.out _ _ hS9 (λhSX=>?_);clear hSX hS9 hbc hS0;refine wpAnyH_done cm ?_ _;have hm2:=(HM1.o.drew).Td HV.o.apart q s;rw[HNB.o,<-HAA.o] at hm2;have hr2:ag (w3.drew.setCells nb (q*128) A.toList) E 36 128 (aw s):=by
  unfold ag;rw[(ek.setCells nb A.toList (q*128) w3.drew).block E (ag.lt HR1.o) hEn];exact HR1.o
 generalize w3.drew.setCells nb (q*128) A.toList=w4 at*;have c2:=hm2.head.cells.2.2.1;rw[HPV.o,HLL.o] at c2;have HM2:=ae hm2;clear hm2;have HR2:=ae hr2;clear hr2;clear c1
 go_wp2_with fail
 go_loopw [31] (λc wr=>∃k:Nat,k<=L/\c=.int .i64 k/\Hid (mC wr D h h (jw st q s) (jw nw q s) (mB ps q s k) w/\ag wr E 36 128 (aw s))) (λc _=>L - (intOf c).toNat)
 case atStart=>exact⟨0,kf _,rfl,by unfold mB;exact HM2.o,HR2.o⟩
 case round=>
  obtain⟨k,hk,rfl,hrel⟩:=hrel;by_cases hlt:k<L
  . obtain⟨g,hg⟩:=HAO.o k (by rw[HLL.o];exact hlt);subst hg;have hkp:k<ps.length:=by rw[HLL.o];exact hlt
    have hkr:k< (mB ps q s k).length:=by rw[Ax];exact hkp
    have hcl:h.pv=.slice (s_ g 0) (mB ps q s k).length cap:=by rw[Ax];exact HPV.o
    have hpend:=hrel.o.1.nr;rw[hcl] at hpend;have hrk:=VO ps q s hkp hkr;have hck:=hpend.cellAt (k*129) au;have hp0:=Aw (mB ps q s k) hkr (j:=0) au;rw[CI] at hp0;rw[hp0,hrk] at hck;obtain⟨pk,hpk⟩:=cM (ps[k].1);have ck:wr.cell? ⟨g,k*129,none⟩=some (.int .i64 pk):=by rw[hck,<-hpk];rfl
    have hstep:=PR ps q s hkp;have c2r:=hrel.o.1.head.cells.2.2.1;rw[HPV.o,HLL.o] at c2r;have hthr:=PT hpend hkr;have HTHR:=ae hthr;clear hthr;have HCL:=ae hcl;clear hcl;have HP0:=ae hrk;clear hrk hp0 hck;have hk63: (k:Int)<9223372036854775807:=au;have hk1: (k:Int)< (L:Int):=au;have hk0: (0:Int)<=(k:Int):=au;have hgE:g≠E:=by
     intro e;have t1:=lP hpend (b:=g) rfl;rw[e,ag.ty hrel.o.2] at t1
     grind
    have hgD:g≠D:=by
     intro e;have t1:=lP hpend (b:=g) rfl;rw[e,hrel.o.1.head.ty] at t1
     grind
    have HPD:=ae hpend;clear hpend;by_cases hpq:pk=q
    . have hst:mB ps q s (k+1)=(mB ps q s k).set k ((mB ps q s k)[k].1,s):=by rw[hstep,bC (by rw[hpk];exact hpq),HP0.o]
      have hb1: ((pk:Int)==(q:Int))=true:=by rw[hpq];simp
      have hb2: (pk==q)=true:=by rw[hpq];simp
      have HST:=ae hst;clear hst hstep;have HPK:=ae hpk;clear hpk;have HPQ:=ae hpq;clear hpq
      go_upto_region 9 with(fail)
      clear hb1 hb2 ck;refine wp_region_held_drew (S:=λW=>W.cell? ⟨D,2,none⟩=some (.slice (s_ g 0) L cap)/\ag W E 36 128 (aw s)) cm ⟨c2r,hrel.o.2⟩ (λhS0=>?_);refine He 0 44 (bZ D 0) hS0 ?_;refine He 1 45 (bZ D 0) hS0 ?_;refine He 2 46 (bZ D 2) hS0 ?_;refine Yd 3 47 (.slice (s_ g 0) L cap) rfl (Or.inl ⟨cm,λw hw=>by have h1:=hw.1;go_simp⟩) hS0 ?_;refine He 4 48 (.int .i64 k) hS0 ?_;refine Yd 5 49 (.agg A) rfl (mz cm 36 (.tmp 5) pB E 128 36 (aw s) pB A HAA.o _ (λw h=>h.2) Ep rfl gk) hS0 ?_;refine He 6 50 (bZ g (k*129)) hS0 ?_;refine He 7 51 (bZ g (k*129+1)) hS0 ?_;refine wpAnyH_ready (rs:=[8]) cm fh ?_;refine AllReadyH.cons (o:=⟨none,Op.store 36 (Operand.tmp 51) (Operand.tmp 49),0,_,_,none⟩) pB (λK hK=>lx rfl ?_) AllReadyH.nil;refine wp_store_mid 36 (.tmp 51) (.tmp 49) pB g (k*129+1) A pB pB (by rw[hAs];exact HTHR.o) (by rw[hAs];exact gk) HA1.o ?_;have hbc:=ek.setCells g A.toList (k*129+1) wr.drew;have hS9: (wr.drew.setCells g (k*129+1) A.toList).cell? ⟨D,2,none⟩=some (.slice (s_ g 0) L cap)/\ag (wr.drew.setCells g (k*129+1) A.toList) E 36 128 (aw s):=
       ⟨by rw[z6 (w:=wr.drew) (hbc.block D hrel.o.1.head.lt (yl hgD))];exact hS0.1,by unfold ag;rw[hbc.block E (ag.lt hrel.o.2) (yl hgE)];exact hS0.2⟩
      refine hK.out _ _ hS9 (λhSX=>?_);clear hSX hS9 hbc hS0;refine wpAnyH_done cm ?_ _;have hm7:=(hrel.o.1.drew).Yn HCL.o (by rw[HPV.o];rfl) hkr s;rw[<-HAA.o,<-HST.o] at hm7;have hr7:ag (wr.drew.setCells g (k*129+1) A.toList) E 36 128 (aw s):=by
       unfold ag;rw[(ek.setCells g A.toList (k*129+1) wr.drew).block E (ag.lt hrel.o.2) (yl hgE)];exact hrel.o.2
      have HM7:=ae (And.intro hm7 hr7);clear hm7 hr7;generalize wr.drew.setCells g (k*129+1) A.toList=w7 at*;clear c2r;go_wp2;go_roundw
      case rel=>grind
      case measure=>exact uO
    . have hst:mB ps q s (k+1)=mB ps q s k:=by grind
      have hb1: ((pk:Int)==(q:Int))=false:=by grind
      have hb2: (pk==q)=false:=by grind
      have HM7:=hrel;rw[<-hst] at HM7;clear hst hstep hpk hpq;go_wp2;go_roundw
      case rel=>grind
      case measure=>exact uO
  . obtain rfl:k=L:=au;have hm9:=hrel.o.1;rw[<-HLL.o,Th] at hm9;have HM9:=ae hm9;clear hm9;go_wp2;go_ret;exact⟨rfl,HM9.o.fin ⟨rfl,rfl,rfl⟩ HV.o.apart HV.o.mZ (λp hp=>by
     obtain⟨p',hp',rfl⟩:=lY.1 hp;have:=HV.o.inside p' hp';split <;> exact this),HM9.o.save⟩
theorem Ti {st:Nat->aK}(h: ∀i,fa (st i))(hp: ∀p∈ps,fa p.2): ∀i,fa (uZ st ps i):=by
 unfold uZ
 induction ps generalizing st with
 | nil=>exact h
 | cons p ps ih=>simp_all[ux]
theorem MT {bS:List Bool}(hp: ∀p∈ps,fa p.2): ∀{st:Nat->aK} (k:Nat),(∀i,fa (st i))->∀i,fa (mU st bS k ps i):=by
 induction ps with
 | nil=>simp[mU]
 | cons p ps ih=>
  intro st k h;refine ih (λq hq=>hp q (yz _ hq)) (k+1) ?_
  grind[ux]
theorem Ay {h':Head}(e:h'.sb=h.sb/\h'.nb=h.nb)(hp: ∀b,h'.pv.ownBlock=some b->h.pv.ownBlock=some b∨B<=b): ∀k∈bY D h',k∈bY D h∨B<=k:=by
 intro k hk;simp only[bY,iI] at hk ⊢
 grind
theorem VP (D:Nat)(d:Dv)(l:aK)(ho:d.ops<=1000000000)(w:aD)(a:ou w D d l):
 Calls prog 226 #[.pointer (some ⟨D,0,none⟩)] w λe w'=>e=.returned (.int .i64 (fc d).2)/\lV w w' D (fc d).1 l:=by
 obtain⟨h0,sb,nb,pv,h1,rfl⟩:=a;have hfew:=h0.mZ;have hs':=JK (xV h0);obtain⟨e1,e2,e3,e4,e5⟩:=nY (cS d);obtain⟨c1,c2,c3,c4,_,_⟩:=qh d;have s1:=Dd (cS d) sb nb pv;rw[sS] at s1;by_cases hp: (fK (cS d)).2=true
 . have hw:fc d=({(fK (cS d)).1 with st:=uZ d.st d.ps,ps:=[]},0):=by simp_all[fc]
   rw[hw];refine(Ii D (d.head sb nb pv) d.st d.nw d.ps h0.left au w h1 rE).mono ?_;rintro e w' ⟨he,hv,hs2⟩;rw[<-s1.1] at hv;refine⟨he,⟨⟨_,⟨⟨Ti h0.st h0.ps,hs'.nw,by simp,kf _,hs'.ops,hs'.left⟩,sb,nb,.slice none 0 0,?_,rfl⟩,Ay ⟨rfl,rfl⟩ (by intro b hb;cases hb)⟩,hs2⟩⟩;have e0:d.nw=(fK (cS d)).1.nw:=by rw[e3,c3]
   rw[e0] at hv;exact hv
 . have hw:fc d=((fK (cS d)).1,42):=by simp_all[fc]
   rw[hw];refine(KD D (d.head sb nb pv) h0.left w h1.head rE).mono ?_
   grind[lV.Av]
theorem VQ (D:Nat)(d:Dv)(l:aK)(ho:d.ops<=1000000000)(v:bh)(bS:List Bool)(w:aD)(a:ou w D d l)(hv:Cb w v bS):
 Calls prog 16 #[.pointer (some ⟨D,0,none⟩),v] w λe w'=>e=.returned (.tuple #[])/\lV w w' D (qy d bS) l:=by
 obtain⟨h0,sb,nb,pv,h1,rfl⟩:=a;have hfew:=h0.mZ;refine(Tf D (d.head sb nb pv) d.st d.nw d.ps bS v au w h1 hv).mono ?_;rintro e w' ⟨he,hv,hs2⟩;have hk:=MT (bS:=bS) h0.ps 0 h0.st;exact⟨he,⟨⟨_,⟨⟨hk,hk,by simp[qy],kf _,h0.ops,by simp[qy]⟩,sb,nb,.slice none 0 0,hv,rfl⟩,Ay ⟨rfl,rfl⟩ (by intro b hb;cases hb)⟩,hs2⟩⟩
theorem ZM (D:Nat)(d:Dv)(l:aK)(ho:d.ops<=1000000000)(i:Int)(s:aK)(hs:fa s)(A:iw)(hA:A=ah 128 (aw s))(w:aD)(a:ou w D d l):
 Calls prog 138 #[.pointer (some ⟨D,0,none⟩),.int .i64 i,.agg A] w λe w'=>e=.returned (.int .i64 (uv d i s).2)/\lV w w' D (uv d i s).1 l:=by
 have ha:=a;obtain⟨h0,sb,nb,pv,h1,rfl⟩:=a;have hfew:=h0.mZ;by_cases hh:KA d i=true
 . obtain⟨hi0,hin⟩:=lK (hh:decide (0<=i/\i< (d.n:Int))=true);obtain⟨q,rfl⟩: ∃q:Nat,i=(q:Int):=⟨i.toNat,au⟩;have hw:uv d (q:Int) s=({d with st:=jw d.st q s,nw:=jw d.nw q s,ps:=d.ps.map λp=>if p.1=q then(p.1,s) else p},0):=by simp_all[uv]
   rw[hw];refine(MR D (d.head sb nb pv) d.st d.nw d.ps au q s A hA w h1 (by show q<d.n;omega)).mono ?_;rintro e w' ⟨he,hv,hs2⟩;refine⟨he,⟨⟨_,⟨⟨ux h0.st hs _,ux h0.nw hs _,?_,by grind,h0.ops,h0.left⟩,sb,nb,pv,hv,rfl⟩,λk hk=>.inl hk⟩,hs2⟩⟩;intro p hp;obtain⟨p',hp',rfl⟩:=lY.1 hp;by_cases h3:p'.1=q
   . grind
   . rw[bX h3];exact h0.ps p' hp'
 . have hw:uv d i s=(d,41):=by simp_all[uv]
   rw[hw];have hf:KA d i=false:=by grind
   refine(PU D (d.head sb nb pv) i A w h1.head hf).mono ?_;rintro e w' ⟨he,hb⟩;exact⟨he,⟨⟨_,ha.below hb,λk hk=>.inl hk⟩,jv.lk hb _⟩⟩
def bJ (l:Nat->aq):Nat->bh:=λi=>aN (l (i / 3)) (i % 3)
theorem fi (l:Nat->aq): ∀i,(bJ l i).oneCell'=true:=λ_=>aE _ _
def VR (l:Nat->aq):bh:=.agg (ah 24 (bJ l))
theorem sW: (prog.info? 191).map (·.size)=some 24:=cm
theorem Fy (n:Nat)(l:Nat->aq)(k:Nat)(hk:k*3+3<=n): (ah n (bJ l)).extract (k*3) (k*3+3)=ah 3 (aN (l k)):=by
 apply ER;intro j;rw[aF,Array.getElem?_extract];by_cases hj:j<3
 . rw[bC (by grind[aj]),bC hj,aF,bC au]
   grind[bJ]
 grind
theorem Hn:prog.underlying 191=some (.array 8 106):=by rfl
theorem oE (h: (P.info? t).map (·.size)=some n): ∃it,P.info? t=some it/\it.size=n:=by
 simp_all
theorem u1 (l:Nat->aq)(k:Nat)(hk:k<8)(W:aD): (Instr.index 191 (.agg (ah 24 (bJ l))) (.int .i64 k)).run prog W=.ok (.agg (ah 3 (aN (l k)))) W:=by
 have h1: (part 106 (ah 24 (bJ l)) (k*3)).run prog W=.ok (.agg (ah 3 (aN (l k)))) W:=by
  obtain⟨it,hi,hs⟩:=oE eT;simp[part,isAgg106,sizeOf,typeInfo,hi,hs,Fy 24 l k au]
 obtain⟨it,hi,hs⟩:=oE eT
 simp_all[Instr.index,asIntOf]
theorem JN (b lo hi:Nat)(h1:lo<=hi)(h2:hi<=128)(h3:lo<128)(W:aD): (Instr.sliceAt 36 (.pointer (some ⟨b,0,none⟩)) (some (.int .i64 lo)) (some (.int .i64 hi)) none).run prog W=.ok (.slice (some ⟨b,lo,none⟩) (hi - lo) (128 - lo)) W:=by
 have hu:prog.underlying 36=some (.array 128 5):=Ep;obtain⟨it,hi5,hs5⟩:=oE ue;have e1: (Instr.sliceBound (.int .i64 hi) 128 .sliceAlen).run prog W=.ok hi W:=by
  have a1: (0:Int)<=(hi:Int)/\(hi:Int)<=(128:Nat):=au
  simp_all[Instr.sliceBound,asIntOf]
 have e2: (Instr.sliceBound (.int .i64 lo) hi .sliceB).run prog W=.ok lo W:=by
  simp[Instr.sliceBound,asIntOf,h1]
 have e3: ¬128=lo:=au
 simp_all[Instr.sliceAt,Instr.sureAddr,Instr.sliceBounds,Addr.add]
theorem Tj (b:Nat)(W:aD): (Instr.sliceAt 36 (.pointer (some ⟨b,0,none⟩)) none none none).run prog W=.ok (.slice (some ⟨b,0,none⟩) 128 128) W:=by
 rfl
def ky (l:Nat->aq) (k:Nat):aK:=(range k).flatMap λi=>gZ (l i)
def MU (l:Nat->aq) (k:Nat):Bool:=(range k).all λi=>fP (l i)
def ot (l:Nat->aq):Option aK:=if MU l 8=true then some (ky l 8) else none
theorem De (l:Nat->aq) (k:Nat):ky l (k+1)=ky l k++gZ (l k):=by
 grind[ky,range_succ]
theorem tE (l:Nat->aq) (k:Nat): (ky l k).length=k*16:=by
 induction k<;>grind[De,ep,ky]
theorem Tk (l:Nat->aq) (k:Nat): ∀x∈ky l k,x<256:=by
 intro x hx;unfold ky at hx;obtain⟨i,_,h⟩:=List.mem_flatMap.1 hx;exact o5 _ x h
theorem Tl (l:Nat->aq)(k:Nat):MU l (k+1)=(MU l k&&fP (l k)):=by
 grind[MU]
theorem Yo (h:k<n)(hn:fP (l k)=false):MU l n=false:=by
 grind[MU]
theorem VS {l:Nat->aq}:fa ((ot l).getD aX):=by
 grind[ot,tE,Tk,fa,aX]
theorem pT (s b:aK)(hl:s.length+b.length<=128):
 (splice (ah 128 (aw s)).toList s.length (b.map λ(x:Nat)=>Value.int .u8 (x:Int))).toArray=ah 128 (aw (s++b)):=by
 apply ER;intro j;rw[Vd,aF];unfold splice;have e1: (ah 128 (aw s)).toList.length=128:=by grind[aj]
 by_cases h1:j<s.length
 . rw[Vc rE,getElem?_take,bC h1,qx (xs:=ah 128 (aw s)),aF,bC au,bC au]
   grind[aw]
 . rw[Sw rE,pM,e1,Jn au];by_cases h2:j<s.length+b.length
   . rw[Vc rE,tY,bC au,j4 au]
     grind[aw]
   . rw[Sw rE,pr,getElem?_drop,qx (xs:=ah 128 (aw s)),aF,show s.length+b.length+ (j - s.length - b.length)=j from by omega]
     simp_all[aw]
theorem KE:zeroCells36=ah 128 (aw []):=by
 rfl
theorem Cc: (#[Value.int .i64 0,.int .u64 0,.int .u32 0]:iw).size=3:=rfl
theorem yF (l:Nat->aq)(hl: ∀i,i<8->bt (l i))(w:aD):
 Calls prog 185 #[VR l] w λe w'=>∃A,e=.returned (.tuple #[.agg A,.int .i64 (codeF 51 (ot l))])/\A=ah 128 (aw ((ot l).getD aX))/\dp w w':=by
 unfold VR;obtain⟨N,hN⟩:=gq (ah 24 (bJ l));rw[<-hN];obtain⟨W0,hW0⟩:=gq (((w.alloc (.cells N 191)).alloc (.cells zeroCells36 36)).alloc (.cells zeroCells36 36));have s1: (w.alloc (.cells N 191)).heap.size=w.heap.size+1:=by simp
 have s2: ((w.alloc (.cells N 191)).alloc (.cells zeroCells36 36)).heap.size=w.heap.size+1+1:=by simp
 have hs0:W0.heap.size=w.heap.size+1+1+1:=by rw[hW0];simp
 have hr1:ag W0 w.heap.size 191 24 (bJ l):=by rw[hW0,hN];exact ag.alloc_old (ag.alloc_old (ag.alloc _ _ _ _) _) _
 have hr2:ag W0 (w.heap.size+1) 36 128 (aw aX):=by rw[hW0,ij,<-s1];exact ag.alloc_old (ag.alloc _ _ _ _) _
 have hr4:ag W0 (w.heap.size+1+1) 36 128 (aw (ky l 0)):=by rw[hW0,<-s2,KE];exact ag.alloc _ _ _ _
 have hB0:dp w W0:=by rw[hW0];exact(((iU _ _).alloc (eO _) _).alloc (by rw[s1];omega) _).alloc (by rw[s2];omega) _
 have hix: ∀k,k<8->∀W:aD,(Instr.index 191 (.agg N) (.int .i64 (k:Nat))).run prog W=.ok (.agg (ah 3 (aN (l k)))) W:=λk hk W=>by rw[hN];exact u1 l k hk W
 obtain⟨E2,hE2⟩:=gq (w.heap.size+1);obtain⟨E4,hE4⟩:=gq (w.heap.size+1+1);obtain⟨E1,hE1⟩:=gq w.heap.size;have g1:w.heap.size+1<=E2:=au;have g2:E2<E4:=au;have g3:w.heap.size<=E4:=au;have g4:E4<W0.heap.size:=au;rw[<-hE1] at hr1;rw[<-hE2] at hr2;rw[<-hE4] at hr4;have HE:=ae (And.intro hE1 (And.intro hE2 hE4));clear hE1 hE2 hE4 s1 s2 hs0;have HIX:=ae hix;clear hix;have hNs:N.toList.length=24:=by rw[hN,p9,aj]
 have HNS:=ae hNs;clear hNs;have hrg:W0.rangeAt E1 0 N.toList:=by rw[hN];exact kj hr1
 have HRG:=ae hrg;clear hrg hr1;have HN:=ae hN;clear hN;have HW0:=ae hW0;clear hW0;have HL:=ae hl;clear hl;have HR0:=ae (And.intro hr2 (And.intro hr4 (iU E4 W0)));clear hr2 hr4;have HB0:=ae hB0;clear hB0;go_enter func185,ntmps185
 go_upto_region 2 with(fail)
 rw[<-HW0.o,<-HE.o.2.2,<-HE.o.2.1,<-HE.o.1]
 go_wp2_with (((with_reducible refine gO ⟨some 9,Op.load 191 (Operand.tmp 1),191,_,_,none⟩ ?_);refine wpList_load_mid (op:=⟨some 9,Op.load 191 (Operand.tmp 1),191,_,_,none⟩) rfl 191 (.tmp 1) rfl E1 0 rfl N.toList _ HRG.o PV rfl (by rw[HNS.o];exact sW) ?_;rw[CK]))
 go_loopw [10] (λc wr=>∃k:Nat,k<=8/\c=.int .i64 k/\Hid (MU l k=true/\ag wr E2 36 128 (aw aX)/\ag wr E4 36 128 (aw (ky l k))/\Below E4 W0 wr)) (λc _=>8 - (intOf c).toNat)
 case atStart=>exact⟨0,kf _,rfl,rfl,HR0.o⟩
 case round=>
  obtain⟨k,hk,rfl,hrel⟩:=hrel;by_cases hlt:k<8
  . have hp:=HL.o k hlt;have hcall:=qU (l k) hp;obtain⟨A,hA⟩:=gq (ah 3 (aN (l k)));have hv:iy (l k)=.agg A:=by rw[hA];exact(Ap _).symm
    rw[hv] at hcall;have hix:=HIX.o k hlt;rw[<-hA] at hix;have hAs:A.size=3:=by rw[hA,aj]
    have hA1:A.all (·.oneCell')=true:=by rw[hA];exact iv _ (aE _)
    have HA:=ae hA;clear hA hv;have HAS:=ae (And.intro hAs hA1);clear hAs hA1;have HIK:=ae hix;clear hix;have HC:=ae hcall;clear hcall hp;have hrn: (wr.alloc (.cells A 106)).rangeAt wr.heap.size 0 A.toList:=by
     have:=kj (ag.alloc wr 106 3 (aN (l k)));rw[<-HA.o] at this;exact this
    have HRN:=ae hrn;clear hrn;have hb5:Below E4 W0 (wr.alloc (.cells A 106)):=hrel.o.2.2.2.alloc (by have:=ag.lt hrel.o.2.2.1;omega) _;have hr5:ag (wr.alloc (.cells A 106)) E4 36 128 (aw (ky l k)):=ag.alloc_old hrel.o.2.2.1 _;have h25:ag (wr.alloc (.cells A 106)) E2 36 128 (aw aX):=ag.alloc_old hrel.o.2.1 _;have HB5:=ae (And.intro hb5 (And.intro hr5 h25));clear hb5 hr5 h25
    go_wp2_with (first |((with_reducible refine gO ⟨some 13,Op.index 191 (Operand.tmp 9) (Operand.tmp 10),106,_,_,none⟩ ?_);refine Au (o:=⟨some 13,Op.index 191 (Operand.tmp 9) (Operand.tmp 10),106,_,_,none⟩) rfl 191 (.tmp 9) (.tmp 10) rfl (.agg A) (HIK.o _) ?_) |((with_reducible refine gO ⟨none,Op.store 106 (Operand.tmp 6) (Operand.tmp 13),0,_,_,none⟩ ?_);refine u0 (o:=⟨none,Op.store 106 (Operand.tmp 6) (Operand.tmp 13),0,_,_,none⟩) rfl 106 (.tmp 6) (.tmp 13) rfl #[Value.int .i64 0,.int .u64 0,.int .u32 0] A 3 rfl rfl eT Cc HAS.o.1 HAS.o.2 ?_) |((with_reducible refine gO ⟨some 15,Op.load 106 (Operand.tmp 6),106,_,_,none⟩ ?_);refine wpList_load_mid (op:=⟨some 15,Op.load 106 (Operand.tmp 6),106,_,_,none⟩) rfl 106 (.tmp 6) rfl wr.heap.size 0 rfl A.toList _ HRN.o Ic rfl (by rw[p9,HAS.o.1];exact eT) ?_;rw[CK]))
    refine(HC.o _).mono ?_;obtain⟨q,hq⟩:=cM (fP (l k));rw[hq];have HQ:=ae hq;clear hq;rintro e w5 ⟨r,rfl,hr5,hb6⟩;have hE4l:E4< (wr.alloc (.cells A 106)).heap.size:=ag.lt HB5.o.2.1;have hb7:Below E4 W0 w5:=HB5.o.1.trans (hb6.mono au);have hr7:ag w5 E4 36 128 (aw (ky l k)):=ag.below HB5.o.2.1 hb6;have h27:ag w5 E2 36 128 (aw aX):=ag.below HB5.o.2.2 hb6;have hbase:E4<w5.heap.size:=ag.lt hr7;have HB7:=ae (And.intro hb7 (And.intro hr7 h27));clear hb7 hr7 h27;have HR5:=ae hr5;clear hr5 hb6 hE4l;cases q with
    | false=>
     have hno:ot l=none:=by unfold ot;rw[bX];rw[Yo hlt HQ.o];simp
     have HNO:=ae hno;clear hno
     go_wp2_with (first |((with_reducible refine gO ⟨none,Op.store 36 (Operand.tmp 2) (Operand.tmp 21),0,_,_,none⟩ ?_);refine wpList_store_row (o:=⟨none,Op.store 36 (Operand.tmp 2) (Operand.tmp 21),0,_,_,none⟩) rfl 36 (.tmp 2) (.tmp 21) rfl E2 rfl 128 (aw aX) zeroCells36 rfl ij 36 (aw aX) HB7.o.2.2 gk (bV _) ?_))
     refine kg (ib (p:=2) (q:=3) (ty:=36) rfl rfl (ag.setRow HB7.o.2.2 (aw aX)) Ep rfl gk) rfl ?_;refine⟨_,by rw[HNO.o];rfl,by rw[HNO.o];rfl,?_⟩;exact below_setRow (HB0.o.trans (HB7.o.1.mono g3)) au _
    | true=>
     have hrs:=HR5.o;rw[bC rfl] at hrs;obtain⟨bo,bcap,hrf⟩: ∃bo bcap,r=.slice bo 16 bcap:=by
      rcases hrs.2 with⟨h1,h2⟩ | ⟨g,cap,cur,h1,_⟩
      . rw[ep] at h2;cases h2
      . rw[ep] at h1;exact⟨_,_,h1⟩
     subst hrf;obtain⟨cs,hcs⟩: ∃cs:List bh,cs=(gZ (l k)).map (λ(x:Nat)=>Value.int .u8 (x:Int)):=⟨_,rfl⟩;have hcl:cs.length=16:=by rw[hcs,pr,ep]
     have hc1: ∀v∈cs,v.oneCell'=true:=by
      intro v hv;rw[hcs] at hv;obtain⟨x,_,rfl⟩:=lY.1 hv;rfl
     have hpos: ∃ad,bo=some ad/\∀j v,cs[j]? =some v->w5.cell? (ad.add j)=some v:=by
      rcases hrs.2 with⟨h1,h2⟩ | ⟨g,cap,cur,h1,_⟩
      . rw[ep] at h2;cases h2
      . cases h1;refine⟨_,rfl,λj v hv=>?_⟩;rw[hcs] at hv;exact hrs.cells (g:=g) rfl j v hv
     have hfit:k*16+cs.length<=(ah 128 (aw (ky l k))).toList.length:=by rw[hcl,p9,aj];omega
     have hcur:w5.heap[E4]? =some (.cells (ah 128 (aw (ky l k))).toList.toArray 36 (0,0)):=by rw[CK];exact HB7.o.2.1
     have hsl:=JN E4 (k*16) ((k+1)*16) au au au;have e1: (((k*16:Nat)):Int)=(k:Int)*16:=au;have e2: ((((k+1)*16:Nat)):Int)=((k:Int)+1)*16:=au;rw[e1,e2,show(k+1)*16 - k*16=16 from by omega] at hsl;have HSL:=ae hsl;clear hsl e1 e2;have hal:MU l (k+1)=true:=by rw[Tl,hrel.o.1,HQ.o];rfl
     have hsp:=pT (ky l k) (gZ (l k)) (by rw[tE,ep];omega);rw[tE,<-hcs,<-De] at hsp;have HSP:=ae hsp;clear hsp;have HCS:=ae (And.intro hcl (And.intro hc1 (And.intro hpos (And.intro hfit hcur))));clear hcl hc1 hpos hfit hcur;have HCE:=ae hcs;clear hcs hrs;have HAL:=ae hal;clear hal;have hk16: (0:Int)<=(k:Int)*16:=au
     go_wp2_with (first |((with_reducible refine gO ⟨some 27,Op.slice 36 (Operand.tmp 4) (some (Operand.tmp 23)) (some (Operand.tmp 26)) none,22,_,_,none⟩ ?_);refine iV (o:=⟨some 27,Op.slice 36 (Operand.tmp 4) (some (Operand.tmp 23)) (some (Operand.tmp 26)) none,22,_,_,none⟩) rfl 36 (.tmp 4) (some (.tmp 23)) (some (.tmp 26)) none rfl (.slice (s_ E4 (k*16)) 16 (128 - k*16)) (HSL.o _) ?_) |((with_reducible refine gO ⟨some 29,Op.call {callee:=Callee.builtin Builtin.copy,args:=#[Operand.tmp 27,Operand.tmp 28],argTypes:=#[22,22]},3,_,_,none⟩ ?_);refine wpList_copy_splice (o:=⟨some 29,Op.call {callee:=Callee.builtin Builtin.copy,args:=#[Operand.tmp 27,Operand.tmp 28],argTypes:=#[22,22]},3,_,_,none⟩) rfl (.tmp 27) (.tmp 28) 22 22 rfl 5 oC ue (s_ E4 (k*16)) bo 16 (128 - k*16) 16 bcap rfl rfl E4 (k*16) (ah 128 (aw (ky l k))).toList 36 HCS.o.2.2.2.2 cs (by rw[HCS.o.1];rfl) (λ_=>⟨rfl,HCS.o.2.2.1⟩) HCS.o.2.2.2.1 HCS.o.2.1 E4 W0 HB7.o.1 (eO _) ?_;intro w8 hw8 hb8))
     have hr9:ag w8 E4 36 128 (aw (ky l (k+1))):=by
      have:=hw8.o;rw[HSP.o] at this;exact this
     have hw8w:Below E4 W0 w8:=hb8;have h28:ag w8 E2 36 128 (aw aX):=by
      have h0:ag W0 E2 36 128 (aw aX):=HR0.o.1;exact ag.zu h0 hb8 au
     have HR8:=ae (And.intro HAL.o (And.intro h28 (And.intro hr9 hb8)));clear hr9 hw8 hb8 hw8w h28;go_wp2;go_roundw
     case rel=>exact⟨k+1,au,by go_num,HR8.o⟩
     case measure=>exact uO
  . obtain rfl:k=8:=au;have hyes:ot l=some (ky l 8):=by unfold ot;rw[bC hrel.o.1]
    have HYES:=ae hyes;clear hyes;obtain⟨S,hS⟩:=gq (ah 128 (aw (ky l 8)));have hrs:wr.rangeAt E4 0 S.toList:=by rw[hS];exact kj hrel.o.2.2.1
    have hSs:S.toList.length=128:=by rw[hS,p9,aj]
    have HS:=ae hS;clear hS;have HSS:=ae hSs;clear hSs;have HRS:=ae hrs;clear hrs
    go_wp2_with (first |((with_reducible refine gO ⟨some 31,Op.load 36 (Operand.tmp 4),36,_,_,none⟩ ?_);refine wpList_load_mid (op:=⟨some 31,Op.load 36 (Operand.tmp 4),36,_,_,none⟩) rfl 36 (.tmp 4) rfl E4 0 rfl S.toList _ HRS.o Ep rfl (by rw[HSS.o];exact gk) ?_;rw[CK]) |((with_reducible refine gO ⟨none,Op.store 36 (Operand.tmp 2) (Operand.tmp 31),0,_,_,none⟩ ?_);refine wpList_store_row (o:=⟨none,Op.store 36 (Operand.tmp 2) (Operand.tmp 31),0,_,_,none⟩) rfl 36 (.tmp 2) (.tmp 31) rfl E2 rfl 128 (aw (ky l 8)) S rfl HS.o 36 (aw aX) hrel.o.2.1 gk (bV _) ?_))
    refine kg (ib (p:=2) (q:=3) (ty:=36) rfl rfl (ag.setRow hrel.o.2.1 (aw (ky l 8))) Ep rfl gk) rfl ?_;refine⟨_,by rw[HYES.o];rfl,by rw[HYES.o];rfl,?_⟩;exact below_setRow (HB0.o.trans (hrel.o.2.2.2.mono g3)) au _
theorem qz: (#[Value.int .i64 0,.int .u64 0,.int .u32 0,Value.int .i64 0,.int .u64 0,.int .u32 0,Value.int .i64 0,.int .u64 0,.int .u32 0,Value.int .i64 0,.int .u64 0,.int .u32 0,Value.int .i64 0,.int .u64 0,.int .u32 0,Value.int .i64 0,.int .u64 0,.int .u32 0,Value.int .i64 0,.int .u64 0,.int .u32 0,Value.int .i64 0,.int .u64 0,.int .u32 0]:iw)=ah 24 (bJ λ_=>hole):=rfl
def yG (s:aK) (i:Nat):aK:=(s.drop (i*16)).take 16
def Zi (s:aK) (k:Nat):Bool:=(range k).all λi=>(ks (yG s i)).isSome
def Az (s:aK) (k:Nat):Nat->aq:=λi=>if i<k then wm (yG s i) else hole
def sE (s:aK):Option (Nat->aq):=if Zi s 8=true then some (Az s 8) else none
theorem VT (s:aK)(k:Nat):Zi s (k+1)=(Zi s k&& (ks (yG s k)).isSome):=by
 grind[Zi]
theorem ZO (h:k<n)(hn:ks (yG s k)=none):Zi s n=false:=by
 grind[Zi]
theorem Tm (s:aK)(k:Nat):Az s (k+1)=λi=>if i=k then wm (yG s k) else Az s k i:=by
 funext i;unfold Az
 grind
theorem KF (h:fa s)(hk:k<8): (yG s k).length=16:=by
 unfold yG;rw[pM,Ek,h.1];omega
theorem VU (h:ag w E 36 128 (aw s))(hs:fa s)(hk:k<8):
 br .u8 w (.slice (some ⟨E,k*16,none⟩) 16 (128 - k*16)) (aW (yG s k)):=by
 have hl:=KF hs hk;refine⟨_,_,by rw[aI,hl],by grind[aI],?_,λ_=>⟨E,k*16,rfl,ag.lt h,?_⟩⟩
 . intro x hx;unfold aW at hx;obtain⟨y,hy,rfl⟩:=lY.1 hx;have:=hs.2 y (vF (rD hy))
   grind[Lit.wf,IntKind.min,IntKind.max,IntKind.signed,IntKind.bits]
 grind[aI,ag.cell,nk,aw,yG]
theorem VV (h:ag w E 191 24 (bJ l))(hk:k<8)(p:aq):
 ag (w.setCells E (k*3) (ah 3 (aN p)).toList) E 191 24 (bJ λi=>if i=k then p else l i):=by
 refine ag.congr (ag.setCells (ah 3 (aN p)).toList (k*3) h) λj hj=>?_;unfold D6 bJ;rw[p9,aj];by_cases hk2:k*3<=j/\j<k*3+3
 . rw[bC hk2];simp only[show j / 3=k from by omega,wz];rw[show j % 3=j - k*3 from by omega];show(ah 3 (aN p)).toList.getD (j - k*3) (.int .u8 0)=_;rw[DZ,qx,aF,bC au];rfl
 grind
theorem PW (h:ag w E 191 24 (bJ l))(hk:k<8):w.there E (k*3) 3:=λj hj=>
 ⟨by grind[ag.cell],ag.frozen h _⟩
theorem rK (E k:Nat) (hk:k<8) (W:aD): (Instr.indexAt 191 (.pointer (some ⟨E,0,none⟩)) (.int .i64 k)).run prog W=.ok (.pointer (some ⟨E,k*3,none⟩)) W:=by
 obtain⟨it,hi,hs⟩:=oE eT;have hk2: (k:Int)<8:=au;simp[Instr.indexAt,asIntOf,D7 Hn,Instr.sureAddr,sizeOf,typeInfo,hi,hs,Addr.add]
 grind
theorem Tn (h:ks bs=some p):p=wm bs:=by
 grind[ks]
theorem u2 (s:aK)(hs:fa s)(A:iw)(hA:A=ah 128 (aw s))(w:aD):
 Calls prog 207 #[.agg A] w λe w'=>∃N,e=.returned (.tuple #[.agg N,.int .i64 (codeF 51 (sE s))])/\N=ah 24 (bJ ((sE s).getD λ_=>hole))/\dp w w':=by
 obtain⟨W0,hW0⟩:=gq (((w.alloc (.cells A 36)).alloc (.cells (#[Value.int .i64 0,.int .u64 0,.int .u32 0,Value.int .i64 0,.int .u64 0,.int .u32 0,Value.int .i64 0,.int .u64 0,.int .u32 0,Value.int .i64 0,.int .u64 0,.int .u32 0,Value.int .i64 0,.int .u64 0,.int .u32 0,Value.int .i64 0,.int .u64 0,.int .u32 0,Value.int .i64 0,.int .u64 0,.int .u32 0,Value.int .i64 0,.int .u64 0,.int .u32 0]:iw) 191)).alloc (.cells (#[Value.int .i64 0,.int .u64 0,.int .u32 0,Value.int .i64 0,.int .u64 0,.int .u32 0,Value.int .i64 0,.int .u64 0,.int .u32 0,Value.int .i64 0,.int .u64 0,.int .u32 0,Value.int .i64 0,.int .u64 0,.int .u32 0,Value.int .i64 0,.int .u64 0,.int .u32 0,Value.int .i64 0,.int .u64 0,.int .u32 0,Value.int .i64 0,.int .u64 0,.int .u32 0]:iw) 191));have s1: (w.alloc (.cells A 36)).heap.size=w.heap.size+1:=by simp
 have s2: ((w.alloc (.cells A 36)).alloc (.cells (#[Value.int .i64 0,.int .u64 0,.int .u32 0,Value.int .i64 0,.int .u64 0,.int .u32 0,Value.int .i64 0,.int .u64 0,.int .u32 0,Value.int .i64 0,.int .u64 0,.int .u32 0,Value.int .i64 0,.int .u64 0,.int .u32 0,Value.int .i64 0,.int .u64 0,.int .u32 0,Value.int .i64 0,.int .u64 0,.int .u32 0,Value.int .i64 0,.int .u64 0,.int .u32 0]:iw) 191)).heap.size=w.heap.size+1+1:=by simp
 have hs0:W0.heap.size=w.heap.size+1+1+1:=by rw[hW0];simp
 have hr1:ag W0 w.heap.size 36 128 (aw s):=by rw[hW0,hA];exact ag.alloc_old (ag.alloc_old (ag.alloc _ _ _ _) _) _
 have hr2:ag W0 (w.heap.size+1) 191 24 (bJ λ_=>hole):=by rw[hW0,qz,<-s1];exact ag.alloc_old (ag.alloc _ _ _ _) _
 have hr4:ag W0 (w.heap.size+1+1) 191 24 (bJ λ_=>hole):=by rw[hW0,<-s2,qz];exact ag.alloc _ _ _ _
 have hB0:dp w W0:=by rw[hW0];exact(((iU _ _).alloc (eO _) _).alloc (by rw[s1];omega) _).alloc (by rw[s2];omega) _
 obtain⟨E2,hE2⟩:=gq (w.heap.size+1);obtain⟨E4,hE4⟩:=gq (w.heap.size+1+1);obtain⟨E1,hE1⟩:=gq w.heap.size;have g1:w.heap.size+1<=E2:=au;have g2:E2<E4:=au;have g3:w.heap.size<=E4:=au;have g4:E4<W0.heap.size:=au;have g5:E1<E4:=au;rw[<-hE1] at hr1;rw[<-hE2] at hr2;rw[<-hE4] at hr4;have e0:Az s 0=λ_=>hole:=by funext i;unfold Az;rw[bX au]
 rw[<-e0] at hr4;clear e0;have HE:=ae (And.intro hE1 (And.intro hE2 hE4));clear hE1 hE2 hE4 s1 s2 hs0;have HW0:=ae hW0;clear hW0;have HS:=ae hs;clear hs;have HR0:=ae (And.intro hr1 (And.intro hr2 (And.intro hr4 (iU E4 W0))));clear hr1 hr2 hr4;have HB0:=ae hB0;clear hB0;clear hA;go_enter func207,ntmps207
 go_upto_region 2 with(fail)
 rw[<-HW0.o,<-HE.o.2.2,<-HE.o.2.1,<-HE.o.1]
 go_wp2_with (fail)
 go_loopw [8] (λc wr=>∃k:Nat,k<=8/\c=.int .i64 k/\Hid (Zi s k=true/\ag wr E4 191 24 (bJ (Az s k))/\Below E4 W0 wr)) (λc _=>8 - (intOf c).toNat)
 case atStart=>exact⟨0,kf _,rfl,rfl,HR0.o.2.2⟩
 case round=>
  obtain⟨k,hk,rfl,hrel⟩:=hrel;by_cases hlt:k<8
  . have hr1:ag wr E1 36 128 (aw s):=ag.zu HR0.o.1 hrel.o.2.2 g5;have h2r:ag wr E2 191 24 (bJ λ_=>hole):=ag.zu HR0.o.2.1 hrel.o.2.2 g2;have hu:=VU hr1 HS.o hlt;have hcall:=qg _ _ wr hu ⟨_,_,_,rfl,au⟩;obtain⟨q,hq⟩:=cM (ks (yG s k));rw[hq] at hcall;have HQ:=ae hq;clear hq hu hr1;have HC:=ae hcall;clear hcall;have H2:=ae h2r;clear h2r;have hsl:=JN E1 (k*16) ((k+1)*16) au au au;have e1: (((k*16:Nat)):Int)=(k:Int)*16:=au;have e2: ((((k+1)*16:Nat)):Int)=((k:Int)+1)*16:=au;rw[e1,e2,show(k+1)*16 - k*16=16 from by omega] at hsl;have HSL:=ae hsl;clear hsl e1 e2;have hk16: (0:Int)<=(k:Int)*16:=au
    go_wp2_with (first |((with_reducible refine gO ⟨some 17,Op.slice 36 (Operand.tmp 1) (some (Operand.tmp 13)) (some (Operand.tmp 16)) none,22,_,_,none⟩ ?_);refine iV (o:=⟨some 17,Op.slice 36 (Operand.tmp 1) (some (Operand.tmp 13)) (some (Operand.tmp 16)) none,22,_,_,none⟩) rfl 36 (.tmp 1) (some (.tmp 13)) (some (.tmp 16)) none rfl (.slice (s_ E1 (k*16)) 16 (128 - k*16)) (HSL.o _) ?_))
    refine HC.o.mono ?_;rintro e w5 ⟨rfl,hb6⟩;have hE4l:E4<wr.heap.size:=ag.lt hrel.o.2.1;have hb7:Below E4 W0 w5:=hrel.o.2.2.trans (hb6.mono au);have hr7:ag w5 E4 191 24 (bJ (Az s k)):=ag.below hrel.o.2.1 hb6;have h27:ag w5 E2 191 24 (bJ λ_=>hole):=ag.below H2.o hb6;have HB7:=ae (And.intro hb7 (And.intro hr7 h27));clear hb7 hr7 h27 hb6 hE4l;cases q with
    | none=>
     have hno:sE s=none:=by unfold sE;rw[bX];rw[ZO hlt HQ.o];simp
     have HNO:=ae hno;clear hno;obtain⟨A5,hA5⟩:=gq (ah 3 (aN hole));have hv:iy ((none:Option aq).getD hole)=.agg A5:=by rw[hA5];exact(Ap _).symm
     rw[hv];have hAs:A5.size=3:=by rw[hA5,aj]
     have hA1:A5.all (·.oneCell')=true:=by rw[hA5];exact iv _ (aE _)
     have HAS:=ae (And.intro hAs hA1);clear hAs hA1 hv hA5;have h28:ag (w5.alloc (.cells A5 106)) E2 191 24 (bJ λ_=>hole):=ag.alloc_old HB7.o.2.2 _;have H28:=ae h28;clear h28;have hb9:Below E4 W0 (w5.alloc (.cells A5 106)):=HB7.o.1.alloc (by have:=ag.lt HB7.o.2.1;omega) _;have HB9:=ae hb9;clear hb9;have e51:codeF 51 (none:Option aq)=51:=rfl;rw[e51];clear e51
     go_wp2_with (first |((with_reducible refine gO ⟨none,Op.store 106 (Operand.tmp 6) (Operand.tmp 19),0,_,_,none⟩ ?_);refine u0 (o:=⟨none,Op.store 106 (Operand.tmp 6) (Operand.tmp 19),0,_,_,none⟩) rfl 106 (.tmp 6) (.tmp 19) rfl #[Value.int .i64 0,.int .u64 0,.int .u32 0] A5 3 rfl rfl eT Cc HAS.o.1 HAS.o.2 ?_) |((with_reducible refine gO ⟨none,Op.store 191 (Operand.tmp 2) (Operand.tmp 23),0,_,_,none⟩ ?_);refine wpList_store_row (o:=⟨none,Op.store 191 (Operand.tmp 2) (Operand.tmp 23),0,_,_,none⟩) rfl 191 (.tmp 2) (.tmp 23) rfl E2 rfl 24 (bJ λ_=>hole) (#[Value.int .i64 0,.int .u64 0,.int .u32 0,Value.int .i64 0,.int .u64 0,.int .u32 0,Value.int .i64 0,.int .u64 0,.int .u32 0,Value.int .i64 0,.int .u64 0,.int .u32 0,Value.int .i64 0,.int .u64 0,.int .u32 0,Value.int .i64 0,.int .u64 0,.int .u32 0,Value.int .i64 0,.int .u64 0,.int .u32 0,Value.int .i64 0,.int .u64 0,.int .u32 0]:iw) rfl qz 191 (bJ λ_=>hole) H28.o sW (fi _) ?_))
     refine kg (ib (p:=2) (q:=3) (ty:=191) rfl rfl (ag.setRow H28.o (bJ λ_=>hole)) PV rfl sW) rfl ?_;refine⟨_,by rw[HNO.o];rfl,by rw[HNO.o];rfl,?_⟩;exact below_setRow (HB0.o.trans (HB9.o.mono g3)) au _
    | some p=>
     have hpr:=Tn HQ.o;obtain⟨A5,hA5⟩:=gq (ah 3 (aN p));have hv:iy ((some p:Option aq).getD hole)=.agg A5:=by rw[hA5];exact(Ap _).symm
     rw[hv];have e51:codeF 51 (some p:Option aq)=0:=rfl;rw[e51];clear e51;have hAs:A5.size=3:=by rw[hA5,aj]
     have hA1:A5.all (·.oneCell')=true:=by rw[hA5];exact iv _ (aE _)
     have HAS:=ae (And.intro hAs hA1);clear hAs hA1 hv;have hrn: (w5.alloc (.cells A5 106)).rangeAt w5.heap.size 0 A5.toList:=by
      have:=kj (ag.alloc w5 106 3 (aN p));rw[<-hA5] at this;exact this
     have HRN:=ae hrn;clear hrn;have h48:ag (w5.alloc (.cells A5 106)) E4 191 24 (bJ (Az s k)):=ag.alloc_old HB7.o.2.1 _;have hb9:Below E4 W0 (w5.alloc (.cells A5 106)):=HB7.o.1.alloc (by have:=ag.lt HB7.o.2.1;omega) _;have hth:=PW h48 hlt;have hnp:=VV h48 hlt p;rw[hpr,<-Tm,<-hpr,<-hA5] at hnp;have hb10:Below E4 W0 ((w5.alloc (.cells A5 106)).setCells E4 (k*3) A5.toList):=by
      have hbc:=ek.setCells E4 A5.toList (k*3) (w5.alloc (.cells A5 106));exact⟨hbc.os.trans hb9.os,hbc.tape.trans hb9.tape,hbc.output.trans hb9.output,kL hb9.size hbc.size,λj hj=>(hbc.block j (by have:=hb9.size;omega) au).trans (hb9.block j hj)⟩
     have hok:Zi s (k+1)=true:=by rw[VT,hrel.o.1,HQ.o];rfl
     have HTH:=ae hth;clear hth h48 hb9 hpr hA5;obtain⟨W9,hW9⟩:=gq ((w5.alloc (.cells A5 106)).setCells E4 (k*3) A5.toList);rw[<-hW9] at hnp hb10;have HW9:=ae hW9;clear hW9;have HR9:=ae (And.intro hok (And.intro hnp hb10));clear hok hnp hb10;have hix: ∀W:aD,(Instr.indexAt 191 (bZ E4 0) (.int .i64 k)).run prog W=.ok (bZ E4 (k*3)) W:=λW=>rK E4 k hlt W;have HIX:=ae hix;clear hix
     go_wp2_with (first |((with_reducible refine gO ⟨none,Op.store 106 (Operand.tmp 6) (Operand.tmp 19),0,_,_,none⟩ ?_);refine u0 (o:=⟨none,Op.store 106 (Operand.tmp 6) (Operand.tmp 19),0,_,_,none⟩) rfl 106 (.tmp 6) (.tmp 19) rfl #[Value.int .i64 0,.int .u64 0,.int .u32 0] A5 3 rfl rfl eT Cc HAS.o.1 HAS.o.2 ?_) |((with_reducible refine gO ⟨some 25,Op.load 106 (Operand.tmp 6),106,_,_,none⟩ ?_);refine wpList_load_mid (op:=⟨some 25,Op.load 106 (Operand.tmp 6),106,_,_,none⟩) rfl 106 (.tmp 6) rfl w5.heap.size 0 rfl A5.toList _ HRN.o Ic rfl (by rw[p9,HAS.o.1];exact eT) ?_;rw[CK]) |((with_reducible refine gO ⟨some 26,Op.indexAddr 191 (Operand.tmp 4) (Operand.tmp 24),0,_,_,none⟩ ?_);refine pE (o:=⟨some 26,Op.indexAddr 191 (Operand.tmp 4) (Operand.tmp 24),0,_,_,none⟩) rfl 191 (.tmp 4) (.tmp 24) rfl (bZ E4 (k*3)) (HIX.o _) ?_) |((with_reducible refine gO ⟨none,Op.store 106 (Operand.tmp 26) (Operand.tmp 25),0,_,_,none⟩ ?_);refine wpList_store_mid (op:=⟨none,Op.store 106 (Operand.tmp 26) (Operand.tmp 25),0,_,_,none⟩) rfl 106 (.tmp 26) (.tmp 25) rfl E4 (k*3) A5 rfl rfl (by rw[HAS.o.1];exact HTH.o) (by rw[HAS.o.1];exact eT) HAS.o.2 ?_;rw[<-HW9.o]))
     go_roundw
     case rel=>exact⟨k+1,au,by go_num,HR9.o⟩
     case measure=>exact uO
  . obtain rfl:k=8:=au;have hyes:sE s=some (Az s 8):=by unfold sE;rw[bC hrel.o.1]
    have HYES:=ae hyes;clear hyes;have h2r:ag wr E2 191 24 (bJ λ_=>hole):=ag.zu HR0.o.2.1 hrel.o.2.2 g2;obtain⟨S,hS⟩:=gq (ah 24 (bJ (Az s 8)));have hrs:wr.rangeAt E4 0 S.toList:=by rw[hS];exact kj hrel.o.2.1
    have hSs:S.toList.length=24:=by rw[hS,p9,aj]
    have HS2:=ae hS;clear hS;have HSS:=ae hSs;clear hSs;have HRS:=ae hrs;clear hrs;have H2:=ae h2r;clear h2r
    go_wp2_with (first |((with_reducible refine gO ⟨some 28,Op.load 191 (Operand.tmp 4),191,_,_,none⟩ ?_);refine wpList_load_mid (op:=⟨some 28,Op.load 191 (Operand.tmp 4),191,_,_,none⟩) rfl 191 (.tmp 4) rfl E4 0 rfl S.toList _ HRS.o PV rfl (by rw[HSS.o];exact sW) ?_;rw[CK]) |((with_reducible refine gO ⟨none,Op.store 191 (Operand.tmp 2) (Operand.tmp 28),0,_,_,none⟩ ?_);refine wpList_store_row (o:=⟨none,Op.store 191 (Operand.tmp 2) (Operand.tmp 28),0,_,_,none⟩) rfl 191 (.tmp 2) (.tmp 28) rfl E2 rfl 24 (bJ (Az s 8)) S rfl HS2.o 191 (bJ λ_=>hole) H2.o sW (fi _) ?_))
    refine kg (ib (p:=2) (q:=3) (ty:=191) rfl rfl (ag.setRow H2.o (bJ (Az s 8))) PV rfl sW) rfl ?_;refine⟨_,by rw[HYES.o];rfl,by rw[HYES.o];rfl,?_⟩;exact below_setRow (HB0.o.trans (hrel.o.2.2.mono g3)) au _
theorem xX (h:ag w b 206 1040 (mY st rm))(q r:Nat)(v:Int)(hv:v=(r:Int)):
 ag (w.setCell ⟨b,1024+q,none⟩ (.int .i64 v)).drew b 206 1040 (mY st (λk=>if k=q then r else rm k)):=by
 subst hv;exact(ag.set h (1024+q) (.int .i64 r)).congr λj _=>S8 st rm q r j
theorem AA (h:ag w b 206 1040 (mY st rm))(hi:i<1024)(v:Nat):
 ag (w.setCell ⟨b,i,none⟩ (.int .u8 v)) b 206 1040 (mY (ig st i v) rm):=by
 refine(ag.set h i (.int .u8 v)).congr λj _=>?_;by_cases hji:j=i
 . subst hji;rw[bC rfl,Dc _ _ hi,Ab]
 simp_all[mY,wI]
theorem wN (h:ag w b 206 1040 (mY st rm))(hr: ∀k,k<16->rm k=ey st k):bU w b st:=by
 refine ag.congr h λj hj=>?_;unfold mY
 grind
theorem JO (h:ag w b 206 1040 (mY st rm))(hi:i<1024):w.cell? ⟨b,i,none⟩=some (.int .u8 (st i:Nat)):=by
 grind[ag.cell,Dc]
theorem MV (h:ag w b 206 1040 (mY st rm))(hk:k<16):w.cell? ⟨b,1024+k,none⟩=some (.int .i64 (rm k:Nat)):=by
 grind[ag.cell,JH]
theorem PY (st:Nat->Nat){tv:Nat}(k:Nat):ey (ig st i tv) k=if k=i / 64 then ey st (i / 64) - (if st i=1 then 1 else 0)+ (if tv=1 then 1 else 0) else ey st k:=by
 by_cases h:k=i / 64
 . subst h;rw[bC rfl];have h1:=S6 st (i:=i) (k:=i / 64) tv rfl;have h2:st i=1->0<ey st (i / 64):=λh=>B5 au au h
   grind
 . rw[bX h]
   grind[Ie]
theorem EC (b:Nat)(st:Nat->Nat)(i tv:Nat)(hi:i<1024)(w:aD)(hm:bU w b st):
 Calls prog 146 #[.pointer (some ⟨b,0,none⟩),.int .i64 i,.int .u8 tv] w λe w'=>e=.returned (.tuple #[])/\bU w' b (ig st i tv)/\ek b w w':=by
 have hc:=hm.state hi;have hr:=hm.room (k:=i / 64) au;have hcf:=ag.frozen hm i;have hrf:=ag.frozen hm (1024+i / 64);have hle:=MJ st (i / 64);have hpos:st i=1->1<=ey st (i / 64):=λh=>B5 au au h;have HM:=ae hm;clear hm;have g2: (0:Int)<=(i:Int):=au;have g3: (i:Int)<1024:=au;have g4: (0:Int)<=(i:Int) / 64:=au;have g5: (i:Int) / 64<16:=au;have HA:Hid (∀k,ey (ig st i tv) k=if k=i / 64 then ey st (i / 64) - (if st i=1 then 1 else 0)+ (if tv=1 then 1 else 0) else ey st k):=PY st;obtain⟨x,HX⟩:=qI (st i);obtain⟨r,HR⟩:=qI (ey st (i / 64));rw[HX.o] at hc hpos;rw[HR.o] at hr hle hpos;have HB:Hid (ek b w w):=ek.refl b w;by_cases h1:x=1
 . by_cases h2:tv=1
   . have h1': ((x:Int)==1)=true:=by rw[Em];omega
     have hpos:=hpos h1;have hx1: (x:Int)=1:=au;have h2': ((tv:Int)==1)=true:=by rw[Em];omega
     have HH1:=ae h1;clear h1;have HH2:=ae h2;clear h2;clear hx1;go_enter func146,ntmps146
     go_wp2_with fail
     go_region
     obtain⟨w1,hw1⟩:=gq ((w.setCell ⟨b,1024+i / 64,none⟩ (.int .i64 ((r:Int) - 1))).drew);rw[<-hw1];have hm1:ag w1 b 206 1040 (mY st (λk=>if k=i / 64 then r - 1 else ey st k)):=by rw[hw1];exact xX HM.o (i / 64) (r - 1) _ au
     have hb1:ek b w w1:=by rw[hw1];exact(HB.o.setCell _ _).drew
     clear hw1;have hcf:=ag.frozen hm1 i;have HM1:=ae hm1;clear hm1;have HB1:=ae hb1;clear hb1;have hc:=JO HM1.o hi;rw[HX.o] at hc
     go_wp2_with fail
     obtain⟨w2,hw2⟩:=gq (w1.setCell ⟨b,i,none⟩ (.int .u8 (tv:Int)));rw[<-hw2];have hm2:=AA HM1.o hi tv;have hb2:ek b w w2:=by rw[hw2];exact HB1.o.setCell _ _
     rw[<-hw2] at hm2;clear hw2;have hr:=MV hm2 (k:=i / 64) au;have hrf:=ag.frozen hm2 (1024+i / 64);simp only[wz] at hr;have HM2:=ae hm2;clear hm2;have HB2:=ae hb2;clear hb2;obtain⟨r',hr'⟩: ∃r',r - 1=r':=⟨_,rfl⟩;rw[hr'] at hr;have HR':=ae hr';clear hr';have hle':r'<=64:=by have:=HR'.out;omega
     go_wp2_with fail
     go_region
     obtain⟨w3,hw3⟩:=gq ((w2.setCell ⟨b,1024+i / 64,none⟩ (.int .i64 ((r':Int)+1))).drew);rw[<-hw3];have hm3:=xX HM2.o (i / 64) (r'+1) ((r':Int)+1) au;have hb3:ek b w w3:=by rw[hw3];exact(HB2.o.setCell _ _).drew
     rw[<-hw3] at hm3;clear hw3;have hfin:bU w3 b (ig st i tv):=wN hm3 (λk _=>by
      rw[HA.o k,HX.o,HR.o];have:=HH1.o;have:=HH2.o;have:=HR'.out;by_cases hk:k=i / 64
      . subst hk;simp[*] <;> first | rfl | omega | exact HR.o
      . simp[hk])
     have HF:=ae hfin;clear hfin hm3;have HBF:=ae hb3;clear hb3;go_wp2
     go_end0
     exact⟨rfl,HF.o,HBF.o⟩
   . have h1': ((x:Int)==1)=true:=by rw[Em];omega
     have hpos:=hpos h1;have hx1: (x:Int)=1:=au;have h2': ((tv:Int)==1)=false:=by rw[k'];omega
     have HH1:=ae h1;clear h1;have HH2:=ae h2;clear h2;clear hx1;go_enter func146,ntmps146
     go_wp2_with fail
     go_region
     obtain⟨w1,hw1⟩:=gq ((w.setCell ⟨b,1024+i / 64,none⟩ (.int .i64 ((r:Int) - 1))).drew);rw[<-hw1];have hm1:ag w1 b 206 1040 (mY st (λk=>if k=i / 64 then r - 1 else ey st k)):=by rw[hw1];exact xX HM.o (i / 64) (r - 1) _ au
     have hb1:ek b w w1:=by rw[hw1];exact(HB.o.setCell _ _).drew
     clear hw1;have hcf:=ag.frozen hm1 i;have HM1:=ae hm1;clear hm1;have HB1:=ae hb1;clear hb1;have hc:=JO HM1.o hi;rw[HX.o] at hc
     go_wp2_with fail
     obtain⟨w2,hw2⟩:=gq (w1.setCell ⟨b,i,none⟩ (.int .u8 (tv:Int)));rw[<-hw2];have hm2:=AA HM1.o hi tv;have hb2:ek b w w2:=by rw[hw2];exact HB1.o.setCell _ _
     rw[<-hw2] at hm2;clear hw2;have hfin:bU w2 b (ig st i tv):=wN hm2 (λk _=>by
      rw[HA.o k,HX.o,HR.o]
      grind)
     have HF:=ae hfin;clear hfin hm2;have HBF:=ae hb2;clear hb2;go_wp2
     go_end0
     exact⟨rfl,HF.o,HBF.o⟩
 . by_cases h2:tv=1
   . have h1': ((x:Int)==1)=false:=by rw[k'];omega
     clear hpos;have h2': ((tv:Int)==1)=true:=by rw[Em];omega
     have HH1:=ae h1;clear h1;have HH2:=ae h2;clear h2;go_enter func146,ntmps146
     go_wp2_with fail
     obtain⟨w2,hw2⟩:=gq (w.setCell ⟨b,i,none⟩ (.int .u8 (tv:Int)));rw[<-hw2];have hm2:=AA HM.o hi tv;have hb2:ek b w w2:=by rw[hw2];exact HB.o.setCell _ _
     rw[<-hw2] at hm2;clear hw2;have hr:=MV hm2 (k:=i / 64) au;have hrf:=ag.frozen hm2 (1024+i / 64);rw[HR.o] at hr;have HM2:=ae hm2;clear hm2;have HB2:=ae hb2;clear hb2
     go_wp2_with fail
     go_region
     obtain⟨w3,hw3⟩:=gq ((w2.setCell ⟨b,1024+i / 64,none⟩ (.int .i64 ((r:Int)+1))).drew);rw[<-hw3];have hm3:=xX HM2.o (i / 64) (r+1) ((r:Int)+1) au;have hb3:ek b w w3:=by rw[hw3];exact(HB2.o.setCell _ _).drew
     rw[<-hw3] at hm3;clear hw3;have hfin:bU w3 b (ig st i tv):=wN hm3 (λk _=>by
      rw[HA.o k,HX.o,HR.o]
      grind)
     have HF:=ae hfin;clear hfin hm3;have HBF:=ae hb3;clear hb3;go_wp2
     go_end0
     exact⟨rfl,HF.o,HBF.o⟩
   . have h1': ((x:Int)==1)=false:=by rw[k'];omega
     clear hpos;have h2': ((tv:Int)==1)=false:=by rw[k'];omega
     have HH1:=ae h1;clear h1;have HH2:=ae h2;clear h2;go_enter func146,ntmps146
     go_wp2_with fail
     obtain⟨w2,hw2⟩:=gq (w.setCell ⟨b,i,none⟩ (.int .u8 (tv:Int)));rw[<-hw2];have hm2:=AA HM.o hi tv;have hb2:ek b w w2:=by rw[hw2];exact HB.o.setCell _ _
     rw[<-hw2] at hm2;clear hw2;have hfin:bU w2 b (ig st i tv):=wN hm2 (λk _=>by
      rw[HA.o k,HX.o,HR.o];have:=HH1.o;have:=HH2.o;by_cases hk:k=i / 64
      . subst hk;simp[*] <;> first | omega | exact HR.o
      . simp[hk])
     have HF:=ae hfin;clear hfin hm2;have HBF:=ae hb2;clear hb2;go_wp2
     go_end0
     exact⟨rfl,HF.o,HBF.o⟩
def isB (st:Nat->Nat) (i:Int) (s:Nat):Bool:=decide (0<=i/\i<1024/\st i.toNat=s)
def sX (st:Nat->Nat) (i:Int) (s v:Nat):Nat->Nat:=if isB st i s=true then ig st i.toNat v else st
def yH (st:Nat->Nat) (i:Int) (s:Nat):Int:=if isB st i s=true then 0 else 72
theorem zD (b:Nat)(st:Nat->Nat)(i:Int)(s v:Nat)(hi:bT i)(w:aD)(hm:bU w b st):
 Calls prog 173 #[.pointer (some ⟨b,0,none⟩),.int .i64 i,.int .u8 s,.int .u8 v] w λe w'=>e=.returned (.int .i64 (yH st i s))/\bU w' b (sX st i s v)/\ek b w w':=by
 obtain⟨r,hr⟩:=cM (isB st i s);have HM:=ae hm;clear hm;have HI:=ae hi;clear hi;have HR:=ae hr;clear hr;have HS:Hid (decide (0<=i/\i<1024/\st i.toNat=s)=r):=HR.o;cases r with
 | false=>
  have h1:yH st i s=72:=by unfold yH;rw[HR.o];rfl
  have h2:sX st i s v=st:=by unfold sX;rw[HR.o];rfl
  rw[h1,h2];clear h1 h2;go_enter func173,ntmps173
  go_wp2_with fail
  refine(wL b st i s _ HM.o HI.o).mono ?_;rw[HS.o];rintro e w1 ⟨rfl,rfl⟩;go_wp2;go_ret;exact⟨rfl,HM.o,ek.refl _ _⟩
 | true=>
  have h1:yH st i s=0:=by unfold yH;rw[HR.o];rfl
  have h2:sX st i s v=ig st i.toNat v:=by unfold sX;rw[HR.o];rfl
  rw[h1,h2];clear h1 h2;have hk:=lK HS.o;obtain⟨k,rfl⟩: ∃k:Nat,i=(k:Int):=⟨i.toNat,au⟩;have hk':k<1024:=au;rw[BQ];clear hk;go_enter func173,ntmps173
  go_wp2_with fail
  refine(wL b st k s _ HM.o HI.o).mono ?_;rw[HS.o];rintro e w1 ⟨rfl,rfl⟩
  go_wp2_with fail
  refine(EC b st k v hk' _ HM.o).mono ?_;rintro e w2 ⟨rfl,hm2,hb2⟩;have HM2:=ae hm2;clear hm2;have HB2:=ae hb2;clear hb2;go_wp2;go_ret;exact⟨rfl,HM2.o,HB2.o⟩
theorem VW (b:Nat)(st:Nat->Nat)(i:Int)(hi:bT i)(w:aD)(hm:bU w b st):
 Calls prog 124 #[.pointer (some ⟨b,0,none⟩),.int .i64 i] w λe w'=>e=.returned (.int .i64 (yH st i 1))/\bU w' b (sX st i 1 2)/\ek b w w':=by
 have HM:=ae hm;clear hm;have HI:=ae hi;clear hi;go_enter func124,ntmps124
 go_wp2_with fail
 refine(zD b st i 1 2 HI.o _ HM.o).mono ?_;rintro e w1 ⟨rfl,hm1,hb1⟩;have HM1:=ae hm1;clear hm1;have HB1:=ae hb1;clear hb1;go_wp2;go_ret;exact⟨rfl,HM1.o,HB1.o⟩
theorem MX (b:Nat)(st:Nat->Nat)(i:Int)(hi:bT i)(w:aD)(hm:bU w b st):
 Calls prog 179 #[.pointer (some ⟨b,0,none⟩),.int .i64 i] w λe w'=>e=.returned (.int .i64 (yH st i 2))/\bU w' b (sX st i 2 1)/\ek b w w':=by
 have HM:=ae hm;clear hm;have HI:=ae hi;clear hi;go_enter func179,ntmps179
 go_wp2_with fail
 refine(zD b st i 2 1 HI.o _ HM.o).mono ?_;rintro e w1 ⟨rfl,hm1,hb1⟩;have HM1:=ae hm1;clear hm1;have HB1:=ae hb1;clear hb1;go_wp2;go_ret;exact⟨rfl,HM1.o,HB1.o⟩
theorem To (b:Nat)(st:Nat->Nat)(i:Int)(hi:bT i)(w:aD)(hm:bU w b st):
 Calls prog 180 #[.pointer (some ⟨b,0,none⟩),.int .i64 i] w λe w'=>e=.returned (.int .i64 (yH st i 2))/\bU w' b (sX st i 2 3)/\ek b w w':=by
 have HM:=ae hm;clear hm;have HI:=ae hi;clear hi;go_enter func180,ntmps180
 go_wp2_with fail
 refine(zD b st i 2 3 HI.o _ HM.o).mono ?_;rintro e w1 ⟨rfl,hm1,hb1⟩;have HM1:=ae hm1;clear hm1;have HB1:=ae hb1;clear hb1;go_wp2;go_ret;exact⟨rfl,HM1.o,HB1.o⟩
def zE (st:Nat->Nat):Nat->bh:=λk=>.int .i64 (ey st k:Nat)
theorem Df (h:bU w b st):w.rangeAt b 1024 (ah 16 (zE st)).toList:=by
 intro j v hv;rw[qx,aF] at hv;split at hv
 . next hj=>cases hv;exact h.room hj
 . cases hv
theorem MY (A:iw)(k:Nat)(r:Int)(hk:k<16)(h:A[k]? =some (.int .i64 r))(w:aD):
 (Instr.index 204 (.agg A) (.int .i64 k)).run prog w=.ok (.int .i64 r) w:=by
 simp_all[Instr.index,asIntOf,part]
theorem Ry: (prog.info? 204).map (·.size)=some 16:=cm
theorem count_map (b:Nat)(st:Nat->Nat)(w:aD)(hm:bU w b st):
 Calls prog 61 #[.pointer (some ⟨b,0,none⟩)] w λe w'=>e=.returned (.int .i64 (cZ st:Nat))/\w=w':=by
 have hrg:=Df hm;have HRG:=ae hrg;clear hrg hm;have hA: ∀k,k<16->(ah 16 (zE st))[k]? =some (.int .i64 (ey st k:Nat)):=by intro k hk;rw[aF,bC hk];rfl
 have hAs: (ah 16 (zE st)).size=16:=aj _ _;obtain⟨A,hAA⟩:=gq (ah 16 (zE st));rw[<-hAA] at HRG hA hAs;clear hAA;have hAt:A.toList.toArray=A:=by simp
 have HA:=ae hA;clear hA;go_enter func61,ntmps61
 go_wp2_with (refine wpList_load_mid (op:=⟨some 9,.load 204 (.tmp 8),_,_,_,none⟩) rfl 204 (.tmp 8) rfl b 1024 rfl A.toList _ HRG.o underlying204 rfl (by rw[p9,hAs];exact Ry) ?_;rw[hAt])
 clear hAs hAt
 go_loop [3,10] (λv i=>∃(k s:Nat),k<=16/\i=.int .i64 k/\v=.int .i64 s/\Hid (s=Aq st k))
  (λ_ i=>16 - (intOf i).toNat)
 case atStart=>exact⟨0,0,au,rfl,rfl,rfl⟩
 case round=>
  obtain⟨k,s,hk,rfl,rfl,HS⟩:=hrel;by_cases hlt:k<16
  . have hi1: (k:Int)<16:=au;have hsm:s<=1024:=by have h1:=HS.o;have h2:=MM st k;omega
    have hrl:=MJ st k;have HAk:=HA.o k hlt;have HS2:Hid (s+ey st k=Aq st (k+1)):=by unfold Hid;rw[HS.o];rfl
    obtain⟨r,hr⟩:=cM (ey st k);rw[hr] at HAk HS2 hrl;clear hr;have hix:=MY A k r hlt HAk;clear HAk;go_wp2
    go_round
    case rel=>grind
    case measure=>exact uO
  . obtain rfl:k=16:=au;go_wp2;go_ret;exact⟨by rw[HS.o];rfl,rfl⟩
def Fz (st:Nat->Nat):Int:=match iF st with | some i=>(i:Nat) | none=>0
def FA (st:Nat->Nat):Int:=match iF st with | some _=>0 | none=>71
def FB (st:Nat->Nat):Nat->Nat:=match iF st with | some i=>ig st i 2 | none=>st
theorem zF (h:iF st=some i):Fz st=(i:Nat)/\FA st=0/\FB st=ig st i 2:=by
 unfold Fz FA FB;grind
theorem FC (h:iF st=none):Fz st=0/\FA st=71/\FB st=st:=by
 unfold Fz FA FB;grind
theorem JP (b:Nat)(st:Nat->Nat)(w:aD)(hm:bU w b st):
 Calls prog 183 #[.pointer (some ⟨b,0,none⟩)] w λe w'=>e=.returned (.tuple #[.int .i64 (Fz st),.int .i64 (FA st)])/\bU w' b (FB st)/\ek b w w':=by
 have HM:=ae hm;have hrg:=Df hm;have HRG:=ae hrg;clear hrg hm;have hA: ∀k,k<16->(ah 16 (zE st))[k]? =some (.int .i64 (ey st k:Nat)):=by intro k hk;rw[aF,bC hk];rfl
 have hAs: (ah 16 (zE st)).size=16:=aj _ _;obtain⟨A,hAA⟩:=gq (ah 16 (zE st));rw[<-hAA] at HRG hA hAs;clear hAA;have hAt:A.toList.toArray=A:=by simp
 have HA:=ae hA;clear hA;obtain⟨R,hR⟩:=cM (iF st);have HR:=ae hR;clear hR;go_enter func183,ntmps183
 go_wp2_with (refine wpList_load_mid (op:=⟨some 11,.load 204 (.tmp 10),_,_,_,none⟩) rfl 204 (.tmp 10) rfl b 1024 rfl A.toList _ HRG.o underlying204 rfl (by rw[p9,hAs];exact Ry) ?_;rw[hAt])
 clear hAs hAt
 go_loop [4,12] (λv i=>∃(k s:Nat),k<=16/\i=.int .i64 k/\v=.int .i64 s/\s<16/\Hid (s=nq st k))
  (λ_ i=>16 - (intOf i).toNat)
 case atStart=>exact⟨0,0,au,rfl,rfl,au,rfl⟩
 case round=>
  obtain⟨k,s,hk,rfl,rfl,hs,HS⟩:=hrel;by_cases hlt:k<16
  . have hi1: (k:Int)<16:=au;have hi2: (s:Int)<16:=au;have hi3: (0:Int)<=(s:Int):=au;have HAk:=HA.o k hlt;have hc:=bU.room HM.o hs;have HS2:Hid (nq st (k+1)=if ey st s<ey st k then k else s):=by unfold Hid;rw[HS.o];rfl
    obtain⟨r,hr⟩:=cM (ey st k);obtain⟨q,hq⟩:=cM (ey st s);rw[hr,hq] at HS2;rw[hr] at HAk;rw[hq] at hc;clear hr hq;have hix:=MY A k r hlt HAk;clear HAk;by_cases hqr:q<r
    . have hqr': (q:Int)< (r:Int):=au;have HS3:Hid (k=nq st (k+1)):=by unfold Hid;rw[HS2.o,bC hqr]
      go_wp2
      go_round
      case rel=>grind
      case measure=>simp[intOf];omega
    . have hqr': ¬(q:Int)< (r:Int):=au;have HS3:Hid (s=nq st (k+1)):=by unfold Hid;rw[HS2.o,bX hqr]
      go_wp2
      go_round
      case rel=>exact⟨k+1,s,au,by go_num,rfl,hs,HS3.o⟩
      case measure=>simp[intOf];omega
  . obtain rfl:k=16:=au;have HBS:Hid (s=Da st):=HS.o;have hge: ¬((16:Nat):Int)<16:=au
    go_wp2_with fail
    go_loop [7] (λi=>∃(p j:Nat),p=64*s+j/\j<=64/\i=.int .i64 p/\Hid (∀j',j'<j->st (64*s+j')≠1))
     (λi=>64*s+64 - (intOf i).toNat)
    case atStart=>exact⟨64*s,0,rfl,au,by go_num,λj' h=>absurd h (ES _)⟩
    case round=>
     obtain⟨p,j,hp,hj,rfl,HN⟩:=hrel;by_cases hjl:j<64
     . have hp1: (p:Int)< ((s:Int)+1)*64:=au;have hp2:p<1024:=au;have HP:=ae hp;clear hp;have hpi:bT (p:Int):=by unfold bT;omega
       by_cases hf:st p=1
       . have HRR:Hid (R=some p):=by
          unfold Hid;rw[<-HR.o,HP.o];unfold iF;rw[<-HBS.o];exact Kw HN.o (by rw[<-HP.o];exact hf) 64 hjl
         have hd:decide (0<=(p:Int)/\(p:Int)<1024/\st (p:Int).toNat=1)=true:=ly ⟨au,au,by rw[BQ];exact hf⟩;have HD:=ae hd;clear hd hf
         go_wp2_with fail
         refine(wL b st p 1 _ HM.o hpi).mono ?_;rw[HD.o];rintro e w1 ⟨rfl,rfl⟩
         go_wp2_with fail
         refine(EC b st p 2 hp2 _ HM.o).mono ?_;rintro e w2 ⟨rfl,hm2,hb2⟩;have HM2:=ae hm2;clear hm2;have HB2:=ae hb2;clear hb2;go_wp2;refine kg (v:=.tuple #[.int .i64 p,.int .i64 0]) (by simp[results,results183,go_sem]) rfl (by
          obtain⟨e1,e2,e3⟩:=zF (HR.o.trans HRR.o);rw[e1,e2,e3];exact⟨rfl,HM2.o,HB2.o⟩)
       . have hd:decide (0<=(p:Int)/\(p:Int)<1024/\st (p:Int).toNat=1)=false:=iE (by rw[BQ];exact λh=>hf h.2.2);have HD:=ae hd;clear hd;have HN2:Hid (∀j',j'<j+1->st (64*s+j')≠1):=by
          intro j' hj';by_cases hjj:j'=j
          . subst hjj;rw[<-HP.o];exact hf
          . exact HN.o j' au
         clear hf
         go_wp2_with fail
         refine(wL b st p 1 _ HM.o hpi).mono ?_;rw[HD.o];rintro e w1 ⟨rfl,rfl⟩;go_wp2
         go_round
         case rel=>exact⟨p+1,j+1,by have:=HP.o;omega,au,by go_num,HN2.o⟩
         case measure=>simp[intOf];have:=HP.o;omega
     . have hj64:j=64:=au;have hp1: ¬(p:Int)< ((s:Int)+1)*64:=au;have HRR:Hid (R=none):=by
        unfold Hid;rw[<-HR.o];unfold iF;rw[<-HBS.o];exact Kx (λj' h=>HN.o j' au)
       clear hp;go_wp2;refine kg (v:=.tuple #[.int .i64 0,.int .i64 71]) (by simp[results,results183,go_sem]) rfl (by
        obtain⟨e1,e2,e3⟩:=FC (HR.o.trans HRR.o);rw[e1,e2,e3];exact⟨rfl,HM.o,ek.refl _ _⟩)
theorem Tp (st rm:Nat):ah 1040 (mY (λ_=>st) (λ_=>rm))=Array.replicate 1024 (.int .u8 st)++Array.replicate 16 (.int .i64 rm):=by
 apply ER;intro j;rw[aF,Array.getElem?_append];simp only[Array.size_replicate,Array.getElem?_replicate];unfold mY
 grind
theorem Rz:zeroCells206=ah 1040 (mY (λ_=>0) (λ_=>0)):=by
 rw[Tp];kernel_rfl
theorem RC: (prog.info? 206).map (·.size)=some 1040:=cm
theorem PZ (st:Nat->Nat)(s k:Nat)(h: ∀i,st i≠1):lF st s k=0:=by
 induction k with
 | zero=>rfl
 | succ k ih=>simp_all[zC]
def wO (k:Nat):Nat->Nat:=λi=>if 4<=i/\i<k then 1 else 0
theorem P0:wO 4=λ_=>0:=by funext i;simp_all[wO]
theorem P1 (h:4<=k):ig (wO k) k 1=wO (k+1):=by
 funext i;unfold ig wO
 grind
theorem Tq {T:Int}(h4:4<=k)(hk:k<=1024)(hT: (k:Int)<=T∨k=4)(hge:T<=(k:Int)∨1024<=k):wO k=xR T:=by
 funext i;unfold wO xR
 grind
theorem P4 (w:aD):bU (w.alloc (.cells zeroCells206 206)) w.heap.size (wO 4):=by
 rw[P0,Rz];exact wN (ag.alloc w 206 1040 (mY (λ_=>0) (λ_=>0))) (λk _=>(PZ _ _ _ (λ_=>by decide)).symm)
theorem RE (T:Int)(hT:bT T)(w:aD):
 Calls prog 86 #[.int .i64 T] w λe w'=>e=.returned (.pointer (some ⟨w.heap.size,0,none⟩))/\bU w' w.heap.size (xR T)/\Below w.heap.size w w':=by
 unfold bT at hT;obtain⟨w0,hw0⟩:=gq (w.alloc (.cells zeroCells206 206));have hm0:bU w0 w.heap.size (wO 4):=by rw[hw0];exact P4 w
 have hb0:Below w.heap.size w w0:=by rw[hw0];exact(iU _ _).alloc (eO _) _
 go_enter func86,ntmps86
 go_wp2_with fail
 rw[<-hw0];clear hw0;obtain⟨B,hB⟩:=gq w.heap.size;rw[<-hB] at hm0 hb0 ⊢;have HB:=ae hB;clear hB
 go_loopw [4] (λi wr=>∃(k:Nat),4<=k/\k<=1024/\i=.int .i64 k/\Hid ((k:Int)<=T∨k=4)/\bU wr B (wO k)/\Below B w wr)
  (λi _=>1024 - (intOf i).toNat)
 case atStart=>exact⟨4,au,by omega,rfl,.inr rfl,hm0,hb0⟩
 case round=>
  clear hm0 hb0;obtain⟨k,h4,hk,rfl,HT,hm,hbel⟩:=hrel;have HM:=ae hm;clear hm;rcases Int.lt_or_le 1024 T with hT1 | hT1
  all_goals
   by_cases hlt: (k:Int)<T/\k<1024
   . have hmin: (k:Int)<if(1024:Int)<T then 1024 else T:=by split <;> omega
     have hk2:k<1024:=hlt.2;have HT2:Hid (((k+1:Nat):Int)<=T∨k+1=4):=.inl au;clear hlt
     go_wp2_with fail
     refine(EC B _ k 1 hk2 _ HM.o).mono ?_;rw[P1 h4];rintro e w1 ⟨rfl,hm1,hb1⟩;have hbel1:=hbel.trans (hb1.below (eO _) (by rw[HB.o];exact hbel.size));have HM1:=ae hm1;clear hm1;clear hb1 hmin;go_wp2;go_roundw
     case rel=>exact⟨k+1,au,by omega,by go_num,HT2.o,HM1.o,hbel1⟩
     case measure=>simp[intOf];omega
   . have hmin: ¬(k:Int)<if(1024:Int)<T then 1024 else T:=by split <;> omega
     have hfin:wO k=xR T:=Tq h4 hk HT.o au;have HF:=ae hfin;clear hfin hlt;go_wp2;go_ret;have hBB:=HB.o;subst hBB;exact⟨rfl,by rw[<-HF.o];exact HM.o,hbel⟩
def gQ (st:Nat->Nat) (k:Nat):Nat->Nat:=λi=>if i<k/\st i=3 then 1 else st i
theorem Ik (st:Nat->Nat):gQ st 0=st:=by rfl
theorem Dg (st:Nat->Nat)(k:Nat):gQ st k k=st k:=by simp_all[gQ]
theorem KG (h:st k=3):ig (gQ st k) k 1=gQ st (k+1):=by
 funext i;unfold ig gQ
 grind
theorem MZ (h:st k≠3):gQ st k=gQ st (k+1):=by
 funext i;unfold gQ
 grind
theorem KH (h:bU w b (gQ st 1024)):bU w b (qV st):=by
 have hs: ∀i,i<1024->gQ st 1024 i=qV st i:=by
  simp_all[gQ,qV]
 have hr: ∀k,k<16->ey (gQ st 1024) k=ey (qV st) k:=λk hk=>Db λi h1 h2=>hs i au;refine ag.congr h λj hj=>?_;unfold mY
 grind
theorem P5 (b:Nat)(st:Nat->Nat)(w:aD)(hm:bU w b st):
 Calls prog 228 #[.pointer (some ⟨b,0,none⟩)] w λe w'=>e=.returned (.tuple #[])/\bU w' b (qV st)/\ek b w w':=by
 have hm0:bU w b (gQ st 0):=by rw[Ik];exact hm
 clear hm;have HM0:=ae hm0;clear hm0;have hb0:=ek.refl b w;go_enter func228,ntmps228
 go_wp2_with fail
 go_loopw [3] (λi wr=>∃(k:Nat),k<=1024/\i=.int .i64 k/\Hid (bU wr b (gQ st k))/\ek b w wr)
  (λi _=>1024 - (intOf i).toNat)
 case atStart=>exact⟨0,au,rfl,HM0,hb0⟩
 case round=>
  clear HM0 hb0;obtain⟨k,hk,rfl,HM,hbut⟩:=hrel;by_cases hlt:k<1024
  . have hi1: (k:Int)<1024:=au;have hki:bT (k:Int):=by unfold bT;omega
    by_cases h3:st k=3
    . have hd:decide (0<=(k:Int)/\(k:Int)<1024/\gQ st k (k:Int).toNat=3)=true:=ly ⟨au,au,by rw[BQ,Dg];exact h3⟩;have HD:=ae hd;clear hd;have H3:=ae h3;clear h3
      go_wp2_with fail
      refine(wL b _ k 3 _ HM.o hki).mono ?_;rw[HD.o];rintro e w1 ⟨rfl,rfl⟩
      go_wp2_with fail
      refine(EC b _ k 1 hlt _ HM.o).mono ?_;rw[KG H3.o];rintro e w2 ⟨rfl,hm2,hb2⟩;have hb2:=hbut.trans hb2;have HM2:=ae hm2;clear hm2;go_wp2;go_roundw
      case rel=>exact⟨k+1,au,by go_num,HM2.o,hb2⟩
      case measure=>exact uO
    . have hd:decide (0<=(k:Int)/\(k:Int)<1024/\gQ st k (k:Int).toNat=3)=false:=iE (by rw[BQ,Dg];exact λh=>h3 h.2.2);have HD:=ae hd;clear hd;have hm2:=HM.o;rw[MZ h3] at hm2;have HM2:=ae hm2;clear hm2 h3
      go_wp2_with fail
      refine(wL b _ k 3 _ HM.o hki).mono ?_;rw[HD.o];rintro e w1 ⟨rfl,rfl⟩;go_wp2;go_roundw
      case rel=>exact⟨k+1,au,by go_num,HM2.o,hbut⟩
      case measure=>exact uO
  . obtain rfl:k=1024:=au;go_wp2
    go_end0
    exact⟨rfl,KH HM.o,hbut⟩
theorem VX (st rm:Nat->Nat): ∀i,(mY st rm i).oneCell'=true:=by
 intro i;unfold mY;split <;> rfl
theorem VY (b:Nat)(st:Nat->Nat)(w:aD)(hm:bU w b st):
 Calls prog 118 #[.pointer (some ⟨b,0,none⟩)] w λe w'=>e=.returned (.pointer (some ⟨w.heap.size,0,none⟩))/\bU w' w.heap.size st/\dp w w':=by
 obtain⟨w0,hw0⟩:=gq (w.alloc (.cells zeroCells206 206));have hr0:ag w0 w.heap.size 206 1040 (mY (λ_=>0) (λ_=>0)):=by rw[hw0,Rz];exact ag.alloc _ _ _ _
 have hr0':ag (w.alloc (.cells zeroCells206 206)) w.heap.size 206 1040 (mY (λ_=>0) (λ_=>0)):=by rw[<-hw0];exact hr0
 have hb0:dp w w0:=by rw[hw0];exact(iU _ _).alloc (eO _) _
 unfold bU at hm;have HM:=ae hm;clear hm;have HR0:=ae hr0';clear hr0';have HW0:=ae hw0;clear hw0;go_enter func118,ntmps118;obtain⟨A,hA⟩:=gq (ah 1040 (mY st (ey st)));have HA:=ae hA;clear hA
 go_wp2_with (first|(refine my (o:=⟨some 6,.load 206 (.tmp 5),_,_,_,none⟩) rfl 206 (.tmp 5) rfl b rfl 1040 206 _ HM.o _ underlying206 rfl RC ?_;rw[<-HA.o])|(refine wpList_store_row (o:=⟨none,.store 206 (.tmp 3) (.tmp 6),_,_,_,none⟩) rfl 206 (.tmp 3) (.tmp 6) rfl w.heap.size rfl 1040 (mY st (ey st)) A rfl HA.o 206 (mY (λ_=>0) (λ_=>0)) HR0.o RC (VX _ _) ?_;rw[<-HW0.o,<-HA.o]))
 go_ret;refine⟨rfl,?_,?_⟩
 . rw[HA.o];exact ag.setRow hr0 (mY st (ey st))
 . exact Below.setRow hb0 (eO _) _
theorem VZ (v:bh)(l:List Int)(w:aD)(hv:br .i64 w v l):
 Calls prog 91 #[v] w λe w'=>∃v',e=.returned v'/\kr w' w.heap.size v' (ed (lM l))/\dp w w':=by
 obtain⟨ao,cap,rfl,hlen,_,hc⟩:=hv;have HC:=ae hc;clear hc;have hr0:=ag.alloc w 249 4096 (cj λ_=>false);rw[<-OW] at hr0;have hb0:dp w (w.alloc (.cells zeroCells249 249)):=(iU _ _).alloc (eO _) _;go_enter func91,ntmps91
 go_wp2_with (fail)
 obtain⟨W,hW⟩:=gq (w.alloc (.cells zeroCells249 249));rw[<-hW] at hr0 hb0 ⊢;have hs0:W.heap.size=w.heap.size+1:=by rw[hW];simp
 have hbn:Below (w.heap.size+1) W W:=iU _ _;clear hW
 go_loopw [8] (λi wr=>∃(k:Nat),k<=l.length/\i=.int .i64 k/\ag wr w.heap.size 249 4096 (cj (lM (l.take k)))/\dp w wr)
  (λi _=>l.length - (intOf i).toNat)
 case atStart=>exact⟨0,kf _,rfl,hr0.congr (λi _=>by simp[cj,lM]),hb0⟩
 case round=>
  obtain⟨k,hk,rfl,hrr,hbel⟩:=hrel;by_cases hlt:k<l.length
  . obtain⟨b,o,rfl,hbs,hcell⟩:=HC.o (by intro h;simp[h] at hlt);have h1:=OX hbs hcell hbel hlt;clear hcell;by_cases hin:0<=l[k]/\l[k]<4096
    . obtain⟨n,hn⟩: ∃n:Nat,l[k]=(n:Int):=⟨l[k].toNat,au⟩;have HN:=ae hn;rw[hn] at h1 hin;clear hn;have hc1:=hrr.cell (i:=n) au;have hf1:=hrr.frozen n;simp only[cj] at hc1;have hi1: (n:Int)< (4096:Int):=au;have hi0: (0:Int)<=(n:Int):=au;go_wp2;go_roundw
      case rel=>
       refine⟨k+1,au,by go_num,hrr.setBool n true (λj hj=>?_),hbel.setCell (eO _) _⟩;rw[tC hlt,HN.o];by_cases hjn:j=n
       . subst hjn;simp
       . rw[bX hjn,iE au,Bool.or_false]
      case measure=>exact uO
    . have hsame:Hid (∀j,j<4096->lM (l.take (k+1)) j=lM (l.take k) j):=by
       intro j hj;rw[tC hlt,iE au,Bool.or_false]
      by_cases h0:0<=l[k];have h2: ¬l[k]<4096:=λh=>hin ⟨h0,h⟩
      rotate_left
      all_goals
       clear hin;go_wp2;go_roundw
       case rel=>exact⟨k+1,au,by go_num,hrr.congr (λj hj=>by simp only[cj];rw[hsame.o j hj]),hbel⟩
       case measure=>exact uO
  . have hl:Hid (l.take k=l):=tX au;rw[hl.o] at hrr
    go_wp2_with (go_at_call 158;refine(Jz _ _ _ hrr).mono ?_;rintro e w1 ⟨v',rfl,hs,hb1⟩)
    go_ret;exact⟨_,rfl,hs.mono hbel.size,Below.step hbel hbel.size hb1⟩
theorem kr.but {w w':aD} {base b:Nat} {v:bh} {l:List (Int×Int)} {st:Nat->Nat} (h:kr w base v l) (hm:bU w b st) (hb:ek b w w'):kr w' base v l:=by
 refine⟨h.1,h.2.imp id λ⟨g,cap,cur,h1,h2,hg,r⟩=>⟨g,cap,cur,h1,h2,?_,r⟩⟩;have hne:g≠b:=by
  rintro rfl
  grind[bU,ag]
 rw[hb.block g (zY.1 hg).1 hne];exact hg
def uP (st:Nat->Nat) (s:Nat):List (Int×Int):=ed λn=>decide (n<1024/\st n=s)
theorem FD {s:Nat}(h:kr w base v (uP st s)):bK w v (uP st s):=kr.sl h
theorem Tr (st:Nat->Nat)(s:Nat):ed (lM (fw (λn=>st n==s) 1024))=uP st s:=by
 unfold uP;refine re λn hn=>?_;unfold lM;rw[DX,yy,yy,oz]
 grind
theorem bU.zu (h:bU w b st)(hb:Below B w w')(hB:b<B):bU w' b st:=ag.zu h hb hB
theorem bU.lt {b:Nat} {w:aD} {st:Nat->Nat} (h:bU w b st):b<w.heap.size:=ag.lt h
theorem Yp (b:Nat)(st:Nat->Nat)(s:Nat)(w:aD)(hm:bU w b st):
 Calls prog 68 #[.pointer (some ⟨b,0,none⟩),.int .u8 s] w λe w'=>∃r,e=.returned r/\kr w' w.heap.size r (uP st s)/\dp w w':=by
 obtain⟨i0,hi,hz0,hz1',hz2⟩:=sC UU;have HM:=ae hm;clear hm;have hown0:=ju w w.heap.size 3 1;obtain⟨f,hf⟩: ∃f:Nat->Bool,f=λn=>st n==s:=⟨_,rfl⟩;have hfl:ed (lM (fw f 1024))=uP st s:=by rw[hf];exact Tr st s
 have HFL:=ae hfl;clear hfl;have HF:Hid (∀k:Nat,k<1024->decide (0<=(k:Int)/\(k:Int)<1024/\st (k:Int).toNat=s)=f k):=by
  intro k hk;rw[hf,DX,yy,BQ,Em];constructor
  . exact λh=>h.2.2
  . exact λh=>⟨au,au,h⟩
 clear hf;go_enter func68,ntmps68
 go_wp2_with fail
 go_loopw [5,7] (λv i wr=>∃(k:Nat),k<=1024/\i=.int .i64 k/\wr.ownsRow w.heap.size 3 1 v (fw f k).length ((fw f k).map (Value.int .i64))/\dp w wr)
  (λ_ i _=>1024 - (intOf i).toNat)
 case atStart=>exact⟨0,au,rfl,hown0,iU _ _⟩
 case round=>
  clear hown0;obtain⟨k,hk,rfl,hown,hbel⟩:=hrel;have hsz:=hbel.size;by_cases hlt:k<1024
  . have hi1: (k:Int)<1024:=au;have hki:bT (k:Int):=by unfold bT;omega
    have hd:=HF.o k hlt;have HMR:=ae (HM.o.zu hbel HM.o.lt);have hle:=kD f k;by_cases hfk:f k=true
    . rw[hfk] at hd;have HS5:Hid (fw f (k+1)=fw f k++[(k:Int)]):=by unfold Hid;rw[qb,bC hfk]
      have HD:=ae hd;clear hd hfk;have HLT:=ae hown.lt
      go_wp2_with fail
      refine(wL b st k s _ HMR.o hki).mono ?_;rw[HD.o];rintro e w1 ⟨rfl,rfl⟩
      go_wp2_with (first |(at_builtin;refine Fc _ rfl (.tmp 14) (.tmp 16) 81 rfl w.heap.size 3 i0 (.int .i64 0) 1 8 um hi hz0 hz1' hz2 rfl nh _ _ _ rfl (hown.alloc _) ⟨wr.heap.size,0,none⟩ 1 1 [.int .i64 k] rfl rfl (cell_one_new _ _ _) (by simp[Value.oneCell']) (by unfold maxLen;omega) au (by simp;omega) ?_;intro v' w2 hown' hgrow _))
      go_roundw
      case rel=>
       refine⟨k+1,au,by go_num,?_,(hbel.alloc au _).grown hgrow (by simp;omega) (λj h=>(HLT.o j h).1)⟩;rw[HS5.o,kh,pt];exact hown'
      case measure=>exact uO
    . have hf':f k=false:=by simpa using hfk
      rw[hf'] at hd;have HS5:Hid (fw f (k+1)=fw f k):=by unfold Hid;rw[qb,bX hfk]
      have HD:=ae hd;clear hd hf' hfk
      go_wp2_with fail
      refine(wL b st k s _ HMR.o hki).mono ?_;rw[HD.o];rintro e w1 ⟨rfl,rfl⟩;go_wp2;go_roundw
      case rel=>exact⟨k+1,au,by go_num,by rw[HS5.o];exact hown,hbel⟩
      case measure=>exact uO
  . obtain rfl:k=1024:=au;have hx:=lz hown (EN f 1024 au) (kL (kD f 1024) au);have HX:=ae hx;clear hown hx
    go_wp2_with fail
    refine(VZ _ _ _ HX.o).mono ?_;rw[HFL.o];rintro e w5 ⟨y,rfl,hy,hb5⟩;have hB5:=Below.step hbel hsz hb5;have HY:=ae hy;clear hy;go_wp2;go_ret;exact⟨y,rfl,HY.o.mono hsz,hB5⟩
theorem Cd (b:Nat)(st:Nat->Nat)(w:aD)(hm:bU w b st):
 Calls prog 26 #[.pointer (some ⟨b,0,none⟩)] w λe w'=>∃r,e=.returned r/\kr w' w.heap.size r (uP st 2)/\dp w w':=by
 have HM:=ae hm;clear hm;go_enter func26,ntmps26
 go_wp2_with fail
 refine(Yp b st 2 _ HM.o).mono ?_;rintro e w1 ⟨y,rfl,hy,hb1⟩;have HY:=ae hy;clear hy;go_wp2;go_ret;exact⟨y,rfl,HY.o,hb1⟩
theorem V0 (he:e≠206)(h:w.ownsRow base e size v n xs)(hm:bU w b st)(hb:ek b w w'):w'.ownsRow base e size v n xs:=by
 refine⟨h.1,h.2.imp id λ⟨g,cap,cur,h1,h2,hg,r⟩=>⟨g,cap,cur,h1,h2,?_,r⟩⟩;have hne:g≠b:=by
  rintro rfl
  grind[bU,ag]
 rw[hb.block g (zY.1 hg).1 hne];exact hg
theorem ek.grown {b:Nat} {w wr w2:aD} {row:Option Nat} (h:ek b w wr) (hg:wr.grownBy w2 row) (hr: ∀k,row=some k->w.heap.size<=k):ek b w w2:=
 ⟨hg.os.trans h.os,hg.tape.trans h.tape,hg.output.trans h.output,kL h.size hg.size,λk hk hkb=>
  (hg.block k (uj hk h.size) (λe=>absurd (hr k e.symm) au)).trans (h.block k hk hkb)⟩
theorem ek.alloc {b:Nat} {w wr:aD} (h:ek b w wr) (o:Obj):ek b w (wr.alloc o):=h.trans (ek.lk ((iU _ _).alloc (eO _) o))
def L7 (l:aK):List bh:=l.map λi=>.int .i64 (i:Nat)
def Dh (st:Nat->Nat) (n:Int):Option (aK×(Nat->Nat)):=if n<=(cZ st:Nat) then some (manyN st n.toNat) else none
def aa8:bh->Nat
 | .slice _ n _=>n
 | _=>0
def M4 {α:Type} (o:Option α):Int:=if o.isSome=true then 0 else 71
def wP (st:Nat->Nat) (n:Int):aK:=((Dh st n).map (·.1)).getD []
def FE (st:Nat->Nat) (n:Int):Nat->Nat:=((Dh st n).map (·.2)).getD st
theorem V1 (st:Nat->Nat)(k:Nat): ∀i∈(manyN st k).1,i<1024:=by
 induction k with
 | zero=>intro i hi;cases hi
 | succ k ih=>
  cases ha:iF (manyN st k).2 with
  | none=>rw[show manyN st (k+1)=(match iF (manyN st k).2 with | some i=>((manyN st k).1++[i],ig (manyN st k).2 i 2) | none=>manyN st k) from rfl,ha];exact ih
  | some j=>
   rw[wJ st ha];intro i hi;simp only[jn,gz] at hi;rcases hi with hi | rfl
   . grind
   . exact(nW ha).1
theorem V2 (b:Nat)(st:Nat->Nat)(n:Int)(hn:bT n)(w:aD)(hm:bU w b st):
 Calls prog 223 #[.pointer (some ⟨b,0,none⟩),.int .i64 n] w λe w'=>∃v,e=.returned (.tuple #[v,.int .i64 (M4 (Dh st n))])/\w'.ownsRow w.heap.size 3 1 v (wP st n).length (L7 (wP st n))/\bU w' b (FE st n)/\ek b w w':=by
 obtain⟨i0,hi,hz0,hz1',hz2⟩:=sC UU;unfold bT at hn;have hblt:=hm.lt;have HM:=ae hm;clear hm;have hcl:cZ st<=1024:=by rw[Ac];exact Fq _ _ _
 have hown0:=ju w w.heap.size 3 1;by_cases hbig: ¬n<=(cZ st:Nat)
 . have h1:Dh st n=none:=bX hbig;have h2:wP st n=[]:=by unfold wP;rw[h1];rfl
   have h3:FE st n=st:=by unfold FE;rw[h1];rfl
   rw[h1,h2,h3];have hc:M4 (none:Option (aK×(Nat->Nat)))=71:=rfl;rw[hc];clear h1 h2 h3 hc;have hbig': ((cZ st:Nat):Int)<n:=au;obtain⟨C,HC⟩:=qI (cZ st);rw[HC.o] at hbig' hbig hcl;go_enter func223,ntmps223
   go_wp2_with fail
   refine(count_map b st _ HM.o).mono ?_;rw[HC.o];rintro e w1 ⟨rfl,rfl⟩;go_wp2;refine kg (v:=.tuple #[.slice none 0 0,.int .i64 71]) (by simp[results,results223,go_sem]) rfl ⟨_,rfl,hown0,HM.o,ek.refl _ _⟩
 have hsm:n<=(cZ st:Nat):=au;have h1:Dh st n=some (manyN st n.toNat):=bC hsm;have h2:wP st n=(manyN st n.toNat).1:=by unfold wP;rw[h1];rfl
 have h3:FE st n=(manyN st n.toNat).2:=by unfold FE;rw[h1];rfl
 rw[h1,h2,h3];have hc:M4 (some (manyN st n.toNat))=0:=rfl;rw[hc];clear h1 h2 h3 hc hbig;obtain⟨N,hN⟩:=cM n.toNat;rw[hN];have hNC:N<=cZ st:=au;have hNn: ∀k:Nat,k<=N->((k:Int)<n↔k<N):=by intro k _;omega
 have HNN:=ae hNn;clear hNn;have hsm': ¬((cZ st:Nat):Int)<n:=au;obtain⟨C,HC⟩:=qI (cZ st);rw[HC.o] at hsm' hsm hcl hNC;have hb0:=ek.refl b w;have HM0:Hid (bU w b (manyN st 0).2):=HM.o;clear hN;go_enter func223,ntmps223
 go_wp2_with fail
 refine(count_map b st _ HM.o).mono ?_;rw[HC.o];rintro e w1 ⟨rfl,rfl⟩
 go_wp2_with fail
 go_loopw [6] (λv wr=>∃(k c:Nat) (a:Option Addr),k<=N/\v=.slice a k c/\wr.ownsRow w.heap.size 3 1 (.slice a k c) k (L7 (manyN st k).1)/\Hid (bU wr b (manyN st k).2)/\ek b w wr)
  (λv _=>N - aa8 v)
 case atStart=>exact⟨0,0,none,kf _,rfl,hown0,HM0,hb0⟩
 case round=>
  clear hown0 hb0 HM0;obtain⟨k,c,a,hk,rfl,hown,HMK,hbut⟩:=hrel;have hsz:=hbut.size;by_cases hlt:k<N
  . have hlt': (k:Int)<n:=(HNN.o k hk).2 hlt;obtain⟨h1,h2⟩:=wK st (k:=k) (by have:=HC.o;omega);obtain⟨j,hj⟩:=Ft (st:=(manyN st k).2) (by have:=HC.o;omega);have hstep:=wJ st hj;obtain⟨e1,e2,e3⟩:=zF hj;have hj4:=(nW hj).1;have HST:=ae hstep;clear hstep;have HE1:=ae e1;clear e1;have HE2:=ae e2;clear e2;have HE3:=ae e3;clear e3;clear h1 h2 hj
    go_wp2_with fail
    refine(JP b _ _ HMK.o).mono ?_;rw[HE1.o,HE2.o,HE3.o];rintro e w2 ⟨rfl,hm2,hb2⟩;have hown2:=V0 nh hown HMK.o hb2;have hbut2:=hbut.trans hb2;have HM2:=ae hm2;clear hm2 hb2 hown;have hsz2:=hbut2.size;have HLT:=ae hown2.lt
    go_wp2_with (first |(at_builtin;refine Fc _ rfl (.tmp 25) (.tmp 27) 81 rfl w.heap.size 3 i0 (.int .i64 0) 1 8 um hi hz0 hz1' hz2 rfl nh _ _ _ rfl (hown2.alloc _) ⟨w2.heap.size,0,none⟩ 1 1 [.int .i64 j] rfl rfl (cell_one_new _ _ _) (by simp[Value.oneCell']) (by unfold maxLen;omega) au (by simp;omega) ?_;intro v' w3 hown3 hgrow3 _))
    have hbut3:=(hbut2.alloc (.cells #[.int .i64 j] 3)).grown hgrow3 (λk h=>(HLT.o k h).1);have hm3:bU w3 b (ig (manyN st k).2 j 2):=ag.grown (ag.alloc_old HM2.o _) hgrow3 (by
     intro h;have:=(HLT.o b h).1;omega)
    have HM3:=ae hm3;clear hm3 hgrow3;obtain⟨a',c',rfl⟩: ∃a c,v'=.slice a (k+1) c:=by
     rcases uT hown3 with⟨_,h0⟩ | ⟨g,cap,h,_⟩
     . omega
     . exact⟨_,_,h⟩
    go_roundw
    case rel=>
     refine⟨k+1,c',a',au,rfl,?_,?_,hbut3⟩
     . rw[HST.o];show w3.ownsRow w.heap.size 3 1 _ _ (L7 ((manyN st k).1++[j]));unfold L7;rw[pt];exact hown3
     . rw[HST.o];exact HM3
    case measure=>simp[aa8];omega
  . obtain rfl:k=N:=au;have hlt': ¬(k:Int)<n:=λh=>hlt ((HNN.o k hk).1 h);have hkl:Hid ((manyN st k).1.length=k):=(wK st (k:=k) (by have:=HC.o;omega)).2;have HOWN:=ae hown;clear hown;go_wp2;refine kg (v:=.tuple #[.slice a k c,.int .i64 0]) (by simp[results,results223,go_sem]) rfl ⟨_,rfl,by rw[hkl.o];exact HOWN.o,HMK.o,hbut⟩
def eX (w:aD) (T:dD) (v:bh) (l:aK):Prop:=ar w T 1 v l.length (l.map λ(x:Nat)=>Value.int .u8 (x:Int))/\∀x∈l,x<256
theorem eX.ints {l:aK}(h:eX w T v l):br .u8 w v (aW l):=by
 obtain⟨⟨h1,ao,cap,rfl,h3,h4,h2⟩,h5⟩:=h;refine⟨ao,cap,by grind[aW],by grind[aI,maxLen],?_,λhn=>?_⟩
 . intro x hx;unfold aW at hx;obtain⟨y,hy,rfl⟩:=lY.1 hx
   grind[Lit.wf,IntKind.min,IntKind.max,IntKind.signed,IntKind.bits]
 . have hl:0<l.length:=by
    rcases l with _ | ⟨a,l⟩
    . exact absurd rfl hn
    . simp
   obtain⟨b,o,cs,fl,rfl,hg,h6⟩:=h2 hl;refine⟨b,o,rfl,(zY.1 hg).1,λj hj=>?_⟩;rw[aI] at hj;rw[cell_of_row w b (o+j) cs T fl hg,nk]
   grind
theorem eX.cap {l:aK}(h:eX w T v l):qN v:=by
 obtain⟨⟨_,ao,cap,rfl,h3,_⟩,_⟩:=h;exact⟨_,_,_,rfl,h3⟩
theorem eX.fr {d:Option Nat} {l:aK} {w w':aD} {T:dD} {v:bh} {bs:aK} (h:eX w T v bs) (s:Fr d l w w') (h1:d=none∨fk T=false) (h2:df T=false):eX w' T v bs:=⟨h.1.fr s h1 h2,h.2⟩
theorem eX.below (h:eX w T v bs)(s:dp w w'):eX w' T v bs:=⟨h.1.below s,h.2⟩
theorem eX.own {l:aK}(h:gI w base v l)(hl: ∀x∈l,x<256):eX w 5 v l:=⟨ar.aV h,hl⟩
theorem eX.sec (h:ag w E 36 128 (aw s))(hs:fa s):eX w 36 (.slice (some ⟨E,0,none⟩) 128 128) s:=by
 refine⟨⟨by grind,_,_,by rw[hs.1],by rw[hs.1];omega,by grind[maxLen],λ_=>⟨E,0,_,_,rfl,h,λj u hu=>?_⟩⟩,hs.2⟩;rw[tY] at hu;cases hj:s[j]? with
 | none=>grind
 | some x=>
  rw[hj] at hu;cases hu;have hl:=(sy.1 hj).1;rw[hs.1] at hl
  simp_all[aF,aw]
structure Pl where
 dv:Dv
 mp:Nat->Nat
 ay:Nat
 base:Nat
def BR (D M s b:Nat):Nat->bh:=λi=>if i=0 then .pointer (some ⟨D,0,none⟩) else if i=1 then .pointer (some ⟨M,0,none⟩) else if i=2 then .int .u64 s else .int .u64 b
def il (w:aD) (P D M s b:Nat):Prop:=ag w P 147 4 (BR D M s b)
theorem il.cells {P s:Nat}(h:il w P D M s b):w.cell? ⟨P,0,none⟩=some (.pointer (some ⟨D,0,none⟩))/\w.cell? ⟨P,1,none⟩=some (.pointer (some ⟨M,0,none⟩))/\w.cell? ⟨P,2,none⟩=some (.int .u64 s)/\w.cell? ⟨P,3,none⟩=some (.int .u64 b):=
 ⟨ag.cell h (i:=0) au,ag.cell h (i:=1) au,ag.cell h (i:=2) au,ag.cell h (i:=3) au⟩
def ll (x:Nat):Prop:=x<18446744073709551616
structure bH (w:aD) (P D M:Nat) (s:Pl):Prop where
 row:il w P D M s.ay s.base
 dev:eU w D s.dv
 map:bU w M s.mp
 ok:ll s.ay/\ll s.base
theorem bH.fr {l:aK} {w w':aD} {P D M:Nat} {s:Pl} (h:bH w P D M s) (f:Fr none l w w') (hP:P∉l) (hM:M∉l):bH w' P D M s:=
 ⟨ag.fr h.row f (.inl rfl) (.inr hP),h.dev.fr f,h.map.fr f hM,h.ok⟩
theorem bH.below {P:Nat}{s:Pl}(h:bH w P D M s)(b:dp w w'):bH w' P D M s:=h.fr (Fr.xU b []) fh fh
theorem bH.Ze {P:Nat}{s:Pl}(h:bH w P D M s):du w M=some 206:=ag.ty h.map
theorem bH.tyP {P:Nat}{s:Pl}(h:bH w P D M s):du w P=some 147:=ag.ty h.row
theorem UK {a:Nat}{u:dD}(ha:du w a=some t)(hb:du w b=some u)(h:t≠u):a≠b:=by grind
theorem bH.ne {P:Nat}{s:Pl}(h:bH w P D M s):P≠M:=UK h.tyP h.Ze nh
theorem bH.XO {P:Nat}{s:Pl}{l:aK}(h:bH w P D M s)(hb:ek b w w')(hd:ou w D s.dv l)(h1:b∉l)(h2:b≠P)(h3:b≠M):bH w' P D M s:=by
 refine⟨?_,?_,bU.me h.map hb (yl h3),h.ok⟩
 . unfold il ag;rw[hb.block P (ag.lt h.row) (yl h2)];exact h.row
 . exact(hd.save (jv.me (l:=[b]) hb (eO _) (.inl fh)) (λk hk=>⟨hd.lt k hk,by grind⟩)).shut
theorem bH.but {w w':aD} {P D M b:Nat} {s:Pl} {t:dD} (h:bH w P D M s) (hb:ek b w w') (ht:du w b=some t) (h1:fk t=false) (h2:df t=false):bH w' P D M s:=by
 obtain⟨l,hl⟩:=h.dev.open;refine h.XO hb hl (λhm=>?_) (λe=>?_) (λe=>?_)
 . obtain⟨u,hu,hd⟩:=hl.ty b hm
   grind
 . rw[e,h.tyP] at ht;cases ht;cases h2
 . rw[e,h.Ze] at ht;cases ht;cases h2
theorem RF (b:Nat)(w:aD)(cs:iw):ek b w (w.setRow b cs):=
 ⟨rfl,rfl,rfl,by simp_all,λk _ hk=>Pj w b k cs hk⟩
theorem bH.rL {P:Nat}{s:Pl}(h:bH w P D M s)(hm:bU w' M mp)(hb:ek M w w'):bH w' P D M {s with mp:=mp}/\Fr none [M] w w':=by
 have f:Fr none [M] w w':=Fr.me hb h.Ze rfl fh;exact⟨⟨ag.fr h.row f (.inl rfl) (.inr (by simp[h.ne])),h.dev.fr f,hm,h.ok⟩,f⟩
theorem bH.dlt {P:Nat}{s:Pl}(h:bH w P D M s): ∀D',some D=some D'->du w D'=some 127:=λD' e=>by cases e;exact h.dev.O2
def sY (b:aK):aK:=b++replicate (128 - b.length) 0
theorem ED {b:aK}(h:b.length<=128)(hb: ∀x∈b,x<256):fa (sY b):=by
 grind[sY,fa]
theorem AB {b:aK}:ah 128 (aw b)=ah 128 (aw (sY b)):=by
 refine sN λi hi=>?_
 grind[aw,sY]
def jG (s:Pl) (i:Int) (b:aK):Pl×(aq×Int):=
 ({s with dv:=(eN s.dv i (sY b)).1},if(eN s.dv i (sY b)).2=0 then((i.toNat,s.ay,vH (sY b)),0) else(hole,(eN s.dv i (sY b)).2))
def pN (s:Pl) (b:aK):Pl×(aq×Int):=
 if b.length > 128 then(s,(hole,92)) else
 match iF s.mp with
 | none=>(s,(hole,71))
 | some i=>
  if(jG s i b).2.2=0 then({(jG s i b).1 with mp:=ig s.mp i 2},(jG s i b).2)
  else((jG s i b).1,(hole,(jG s i b).2.2))
def dq (s:Pl) (i:Int) (b:aK):Pl×(aq×Int):=
 if b.length > 128 then(s,(hole,92)) else
 if 0<=i/\i<1024/\s.mp i.toNat=2 then jG s i b else(s,(hole,72))
def dW (s:Pl) (q:aq):Pl×(aK×Int):=
 if q=hole then(s,(aX,0)) else
 ({s with dv:=(eL s.dv q.1).1},
  if(eL s.dv q.1).2.2=41 then(aX,91) else
  if(eL s.dv q.1).2.2≠0 then(aX,(eL s.dv q.1).2.2) else
  if vH (eL s.dv q.1).2.1≠q.2.2 then(aX,91) else((eL s.dv q.1).2.1,0))
def wQ (s:Pl) (q:aq):Pl×Int:=
 if q=hole then(s,0) else
 if q.2.1 > s.base then({s with mp:=sX s.mp q.1 2 1},yH s.mp q.1 2) else({s with mp:=sX s.mp q.1 2 3},yH s.mp q.1 2)
def jW (s:Nat):Nat:=(s+1) % 18446744073709551616
def u3 (s:Pl):Pl:={s with ay:=jW s.ay}
def rM (s:Pl):Pl:={s with mp:=qV s.mp,base:=s.ay,ay:=jW s.ay}
theorem Ts (D M s b:Nat): (#[Value.pointer (some ⟨D,0,none⟩),.pointer (some ⟨M,0,none⟩),.int .u64 s,.int .u64 b]:iw)=ah 4 (BR D M s b):=by
 rfl
theorem il.of {P s:Nat}(h:w.heap[P]? =some (.cells #[.pointer (some ⟨D,0,none⟩),.pointer (some ⟨M,0,none⟩),.int .u64 s,.int .u64 b] 147 (0,0))):il w P D M s b:=by
 grind[il,ag,Ts]
theorem wR (D M s b:Nat)(w:aD):
 Calls prog 85 #[.pointer (some ⟨D,0,none⟩),.pointer (some ⟨M,0,none⟩),.int .u64 s,.int .u64 b] w λe w'=>e=.returned (.pointer (some ⟨w.heap.size,0,none⟩))/\il w' w.heap.size D M s b/\dp w w':=by
 have h1:=il.of (Ju w (.cells #[bZ D 0,bZ M 0,.int .u64 s,.int .u64 b] 147));have H1:=ae h1;clear h1;have hb:dp w (w.alloc (.cells #[bZ D 0,bZ M 0,.int .u64 s,.int .u64 b] 147)):=(iU _ _).alloc (eO _) _;have HB:=ae hb;clear hb;go_enter func85,ntmps85;go_wp2;go_ret;exact⟨rfl,H1.o,HB.o⟩
theorem iJ (P D M s b:Nat)(w:aD)(h:il w P D M s b):Calls prog 106 #[.pointer (some ⟨P,0,none⟩)] w λe w'=>e=.returned (.pointer (some ⟨D,0,none⟩))/\w=w':=by
 obtain⟨c0,-,-,-⟩:=h.cells;clear h;go_enter func106,ntmps106;go_wp2;go_ret;exact⟨rfl,rfl⟩
theorem jJ (P D M s b:Nat)(w:aD)(h:il w P D M s b):Calls prog 25 #[.pointer (some ⟨P,0,none⟩)] w λe w'=>e=.returned (.pointer (some ⟨M,0,none⟩))/\w=w':=by
 obtain⟨-,c0,-,-⟩:=h.cells;clear h;go_enter func25,ntmps25;go_wp2;go_ret;exact⟨rfl,rfl⟩
theorem pU (P D M s b:Nat)(w:aD)(h:il w P D M s b):Calls prog 52 #[.pointer (some ⟨P,0,none⟩)] w λe w'=>e=.returned (.int .u64 s)/\w=w':=by
 obtain⟨-,-,c0,-⟩:=h.cells;clear h;go_enter func52,ntmps52;go_wp2;go_ret;exact⟨rfl,rfl⟩
theorem KI (P D M s b:Nat)(w:aD)(h:il w P D M s b):Calls prog 119 #[.pointer (some ⟨P,0,none⟩)] w λe w'=>e=.returned (.int .u64 b)/\w=w':=by
 obtain⟨-,-,-,c0⟩:=h.cells;clear h;go_enter func119,ntmps119;go_wp2;go_ret;exact⟨rfl,rfl⟩
theorem FF (D M s b x:Nat): ∀j,j<4->(if j=2 then(.int .u64 x:bh) else BR D M s b j)=BR D M x b j:=by
 grind[BR]
theorem Tt (D M s b x:Nat): ∀j,j<4->(if j=3 then(.int .u64 x:bh) else BR D M s b j)=BR D M s x j:=by
 intro j hj;unfold BR
 grind
theorem pV (s:Nat):IntKind.u64.wrap ((s:Int)+1)=(((s+1) % 18446744073709551616:Nat):Int):=by
 rfl
theorem wT (s:Nat):ll (jW s):=by grind[ll,jW]
theorem KJ (P D M s b:Nat)(w:aD)(h:il w P D M s b):Calls prog 56 #[.pointer (some ⟨P,0,none⟩)] w λe w'=>e=.returned (.tuple #[])/\il w' P D M (jW s) b/\ek P w w':=by
 obtain⟨-,-,c2,-⟩:=h.cells;have f2:=ag.frozen h 2;have hn:il (w.setCell ⟨P,2,none⟩ (.int .u64 (jW s:Nat))) P D M (jW s) b:=(ag.set h 2 (.int .u64 (jW s:Nat))).congr (FF D M s b (jW s));have HN:=ae hn;clear hn h;have HB:=ae (kA P w 2 (.int .u64 (jW s:Nat)));have hw:IntKind.u64.wrap ((s:Int)+1)=((jW s:Nat):Int):=pV s;obtain⟨x,hx⟩:=cM (jW s);rw[hx] at hw HN HB ⊢;clear hx;go_enter func56,ntmps56;go_wp2
 go_end0
 exact⟨rfl,HN.o,HB.o⟩
theorem FG (P D M:Nat)(s:Pl)(w:aD)(h:bH w P D M s):Calls prog 171 #[.pointer (some ⟨P,0,none⟩)] w λe w'=>e=.returned (.tuple #[])/\bH w' P D M (rM s)/\Fr none [P,M] w w':=by
 obtain⟨-,c1,-,-⟩:=h.row.cells;have H:=ae h;clear h;obtain⟨x,hx⟩:=cM (jW s.ay);have hw:IntKind.u64.wrap ((s.ay:Int)+1)=((x:Nat):Int):=by rw[<-hx];exact pV s.ay
 have hpc:rM s= {s with mp:=qV s.mp,base:=s.ay,ay:=x}:=by unfold rM;rw[hx]
 rw[hpc];have hxo:ll x:=by rw[<-hx];exact wT _
 have HX:=ae hxo;clear hx hpc hxo;go_enter func171,ntmps171
 go_wp2_with fail
 refine(P5 M s.mp _ H.o.map).mono ?_;rintro e w1 ⟨rfl,hm1,hb1⟩;obtain⟨hp1,hf1⟩:=H.o.rL hm1 hb1;obtain⟨-,-,c2,c3⟩:=hp1.row.cells;have f2:=ag.frozen hp1.row 2;have f3:=ag.frozen hp1.row 3;have hn:il (w1.setCell ⟨P,3,none⟩ (.int .u64 s.ay)) P D M s.ay s.ay:=(ag.set hp1.row 3 (.int .u64 s.ay)).congr (Tt D M s.ay s.base s.ay);have hn2:il ((w1.setCell ⟨P,3,none⟩ (.int .u64 s.ay)).setCell ⟨P,2,none⟩ (.int .u64 x)) P D M x s.ay:=(ag.set hn 2 (.int .u64 x)).congr (FF D M s.ay s.ay x);have hb2:ek P w1 ((w1.setCell ⟨P,3,none⟩ (.int .u64 s.ay)).setCell ⟨P,2,none⟩ (.int .u64 x)):=(kA P w1 3 _).setCell 2 _;have hf2:Fr none [P,M] w1 ((w1.setCell ⟨P,3,none⟩ (.int .u64 s.ay)).setCell ⟨P,2,none⟩ (.int .u64 x)):=Fr.me hb2 hp1.tyP rfl fh;have hmo:=H.o.ok;have hfin:bH ((w1.setCell ⟨P,3,none⟩ (.int .u64 s.ay)).setCell ⟨P,2,none⟩ (.int .u64 x)) P D M {s with mp:=qV s.mp,base:=s.ay,ay:=x}:=
  ⟨hn2,hp1.dev.fr hf2,bU.me hp1.map hb2 (yl hp1.ne),HX.o,hmo.1⟩
 have HF:=ae (And.intro hfin ((hf1.mono (d':=none) (by intros;contradiction) (by intros;contradiction) (λk hk=>.inl (by simp at hk;simp[hk]))).trans hf2));clear hfin hf1 hf2 hb2 hn2 hmo hp1 hm1 hb1;have c2b:=(il.cells hn).2.2.1;have f2b:=ag.frozen hn 2;clear hn;obtain⟨y,HY⟩:=qI s.ay;rw[HY.o] at c2 c2b f2b hw HF;clear c1
 go_upto_region 2 with(fail)
 clear c2 c3 f2 f3;obtain⟨w2,hw2⟩:=cM (w1.setCell ⟨P,3,none⟩ (.int .u64 y));rw[hw2] at c2b f2b HF ⊢;clear hw2;go_wp2
 go_end0
 exact⟨rfl,by rw[HY.o];exact HF.o.1,HF.o.2⟩
theorem KK {d:Dv}{i:Int}(h: (eN d i s).2=0):0<=i/\i< (d.n:Int):=by
 by_cases hh:KA d i=true
 . exact lK hh
 simp_all[eN]
theorem eX.form {b:aK}(h:eX w T v b): ∃ao cap,v=.slice ao b.length cap/\b.length<=cap/\b.length<=9223372036854775807:=by
 obtain⟨⟨_,ao,cap,rfl,h1,h2,_⟩,_⟩:=h;exact⟨ao,cap,rfl,h1,by grind[maxLen]⟩
theorem eX.but {w w':aD} {T t:dD} {v:bh} {bs:aK} (h:eX w T v bs) {c:Nat} (s:ek c w w') (hc:du w c=some t) (hne:t≠T):eX w' T v bs:=⟨h.1.but s hc hne,h.2⟩
theorem Tu (h:st i=1):ig (ig st i 2) i 1=st:=by
 grind[S5,S4]
theorem Tv (st:Nat->Nat)(s:Nat)(i:Int):Hf (uP st s) i=decide (0<=i/\i<1024/\st i.toNat=s):=by
 unfold Hf;rw[DX,yy,yy];have hr:cX (uP st s)=true:=ox _;have e:kq (uP st s)=gH (uP st s):=tA hr;rw[e,oy];unfold uP;rw[zZ]
 grind
structure M6 (W:aD) (P D M:Nat) (s:Pl) (d:aK) (w:aD) (E3 E4 E6:Nat) (q:aq) (rs:aK):Prop where
 pl:bH W P D M s
 dv: ∃l,ou W D s.dv l/\E4∉l/\E6∉l
 r3:vK W E3 q
 r4:ag W E4 36 128 (aw aX)
 r6:ag W E6 36 128 (aw rs)
 fr:Fr (some D) [] w W
 o4:w.heap.size<=E4
 o6:w.heap.size<=E6
 n46:E4≠E6
theorem M6.fin {P:Nat}{s:Pl}(g:M6 W P D M s d w E3 E4 E6 q rs)(cs:iw):bH (W.setRow E4 cs) P D M s/\Fr (some D) [] w (W.setRow E4 cs):=by
 obtain⟨l,hl,h4,_⟩:=g.dv;exact⟨g.pl.XO (RF E4 W cs) hl h4 (yl (UK g.pl.tyP (ag.ty g.r4) nh)) (yl (UK g.pl.Ze (ag.ty g.r4) nh)),g.fr.setRow g.o4 cs⟩
theorem M6.drew {P:Nat}{s:Pl}(g:M6 W P D M s d w E3 E4 E6 q rs):M6 W.drew P D M s d w E3 E4 E6 q rs:=by
 obtain⟨l,hl,h4,h6⟩:=g.dv;exact⟨g.pl.below ((iU _ _).drew),⟨l,hl.below ((iU _ _).drew),h4,h6⟩,g.r3,g.r4,g.r6,g.fr.drew,g.o4,g.o6,g.n46⟩
theorem aJ (h:bodyPost P fn R .ret a w):bodyPost P fn R .ret a w:=h
theorem CG:prog.built 36 []=some zeroCells36:=cm
theorem ZP {cells:iw}(h:P.built t []=some cells)(f:Nat×Operand->Nat×bh):P.built t (Array.map f #[]).toList=some cells:=by grind
theorem rN {P:pw} (w:aD) (dd:Nat) (e:dD) (sz:Nat) (xs ys:iw) (f:Nat->Bool): ∀(is:aK),
 (∀i∈is,∃a b,(part e xs (i*sz)).run P w=.ok a w/\(part e ys (i*sz)).run P w=.ok b w/\(Op.equalIn dd e a b).run P w=.ok (f i) w)->(Op.eqItems dd e sz xs ys is).run P w=.ok (is.all f) w
 | [],_=>by rfl
 | i::is,h=>by
  obtain⟨a,b,p1,p2,p3⟩:=h i D0;have ih:=rN w dd e sz xs ys f is (λj hj=>h j (yz _ hj));simp only[Op.eqItems,py,p1,p2,p3,rj,all_cons];cases f i
  . simp
  . simpa using ih
theorem M7 (l:Nat->aq)(k:Nat)(hk:k<8)(W:aD): (part 106 (ah 24 (bJ l)) (k*3)).run prog W=.ok (.agg (ah 3 (aN (l k)))) W:=by
 obtain⟨it,hi,hs⟩:=oE eT;simp[part,isAgg106,sizeOf,typeInfo,hi,hs,Fy 24 l k au]
def RG (l m:Nat->aq):Bool:=(range 8).all λi=>decide (l i=m i)
theorem V3 (l m:Nat->aq)(w:aD): (Op.equal 191 (.agg (ah 24 (bJ l))) (.agg (ah 24 (bJ m)))).run prog w=.ok (RG l m) w:=by
 obtain⟨it,hi,hs⟩:=oE eT;have hc:prog.cellsOf 106=3:=cm;unfold Op.equal Op.maxDepth;rw[run_equalIn_array w 9999 _ _ Hn hi,hc];refine rN w 9999 106 3 _ _ _ (range 8) λi hi=>?_;rw[mem_range] at hi;refine⟨_,_,M7 l i hi w,M7 m i hi w,?_⟩;have:=Fo (l i).1 (l i).2.1 (l i).2.2 (m i).1 (m i).2.1 (m i).2.2 w 9997;rw[PD] at this;exact this
theorem ZQ (l m:Nat->aq)(r:Bool)(h:RG l m=r)(w:aD): (binOp .eql 191 (.agg (ah 24 (bJ l))) (.agg (ah 24 (bJ m)))).run prog w=.ok (.bool r) w:=by
 have hs:=V3 l m w
 simp_all[binOp]
theorem JQ (s:aK)(k:Nat)(hk:k<128)(W:aD): (part 5 (ah 128 (aw s)) (k*1)).run prog W=.ok (aw s k) W:=by
 have h5: (isAgg 5).run prog W=.ok false W:=isAgg5 W
 simp_all[part,aF]
def Ho (s t:aK):Bool:=(range 128).all λi=>decide (s.getD i 0=t.getD i 0)
theorem JR {t:aK}(hs:fa s)(ht:fa t):Ho s t=decide (s=t):=by
 unfold Ho;rw[DX,yy,Ak];constructor
 . intro h;apply EU;intro i;by_cases hi:i<128
   . have:=h i (List.mem_range.2 hi);rw[yy,DZ,DZ,j4 (by rw[hs.1];exact hi),j4 (by rw[ht.1];exact hi)] at this
     grind
   . rw[getElem?_eq_none (by rw[hs.1];omega),getElem?_eq_none (by rw[ht.1];omega)]
 grind
theorem ZT:prog.underlying 36=some (.array 128 5):=by rfl
theorem U1 (s t:aK)(w:aD): (Op.equal 36 (.agg (ah 128 (aw s))) (.agg (ah 128 (aw t)))).run prog w=.ok (Ho s t) w:=by
 obtain⟨it,hi,hs⟩:=oE ue;have hc:prog.cellsOf 5=1:=cm;unfold Op.equal Op.maxDepth;rw[run_equalIn_array w 9999 _ _ ZT hi,hc];unfold Ho;refine rN w 9999 5 1 (ah 128 (aw s)) (ah 128 (aw t)) (λi=>decide (s.getD i 0=t.getD i 0)) (range 128) (λi hi=>?_);rw[mem_range] at hi;refine⟨_,_,JQ s i hi w,JQ t i hi w,?_⟩;unfold aw;rw[Vx w 9998 5 .u8 .u8 _ _ FH];congr 1;rw[DX];simp;omega
theorem Zj (s t:aK)(r:Bool)(h:Ho s t=r)(w:aD): (binOp .neq 36 (.agg (ah 128 (aw s))) (.agg (ah 128 (aw t)))).run prog w=.ok (.bool !r) w:=by
 have hs:=U1 s t w
 simp_all[binOp]
theorem bz: (#[Value.int .i64 0,.int .u64 0,.int .u32 0]:iw)=ah 3 (aN hole):=rfl
theorem ag.but {w w':aD} {b c:Nat} {t:dD} {n:Nat} {f:Nat->bh} (h:ag w b t n f) (hb:ek c w w') (hne:b≠c):ag w' b t n f:=by
 unfold ag;rw[hb.block b (ag.lt h) hne];exact h
theorem u9 (h:ag w b t n f)(hA:A=ah n f):w.rangeAt b 0 A.toList:=by grind[kj]
theorem KL (h:k∉ki w D)(hb:dp w w')(hD:du w D=some 127):k∉ki w' D:=by
 rw[lO (hb.block D (c7 hD))];exact h
theorem FI {l:aK}(h:k∉ki w D)(hf:Fr none l w w')(hD:du w D=some 127):k∉ki w' D:=by
 rw[lO (hf.bS hD (.inl rfl) (.inl rfl))];exact h
def ph:Nat->aq:=λ_=>hole
theorem wU {s:Pl}(h:nO s.dv)(q:aq):fa (dW s q).2.1:=by
 grind[dW,kt,B7]
def aO (s:Pl) (q:aq):Pl×((Nat->aq)×Int):=
 if(dW s q).2.2≠0 then((dW s q).1,(ph,(dW s q).2.2)) else
 match sE (dW s q).2.1 with
 | none=>((dW s q).1,(ph,91))
 | some l=>((dW s q).1,(l,0))
def dg (s:Pl) (l:Nat->aq):Pl×(aq×Int):=
 match ot l with
 | none=>(s,(hole,51))
 | some b=>pN s b
theorem zG {b:aK}(h:ot l=some b):fa b:=by
 grind[VS]
end Go.Proofs.YtklligbjoplbgaaGreat
