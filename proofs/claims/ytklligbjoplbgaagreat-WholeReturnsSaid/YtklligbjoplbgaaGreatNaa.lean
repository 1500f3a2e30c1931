/- Part 1 of the proof of WholeReturns. No conditions. -/
import Derived.KernelRfl
import Derived.Lib.Hide
import Derived.Test.YtklligbjoplbgaaGreatProg
set_option linter.all false
namespace Go.Proofs.YtklligbjoplbgaaGreat
set_option maxRecDepth 100000
set_option maxHeartbeats 64000000
open Go.RowKit Lib List Nat _root_.Go.Proofs.Tryz
abbrev cL:=@if_pos
abbrev cM:=@if_neg
abbrev dK:=@Nat.le_refl
abbrev fK:=@congrArg
abbrev gO:=@Nat.le_trans
abbrev ib:=@mem_cons
abbrev ik:=@length_append
abbrev iC:=@decide_eq_false
abbrev eO:=@bne_iff_ne
abbrev eV:=@mem_singleton
abbrev fL:=@mem_append
abbrev fM:=@mem_map
abbrev fN:=@zero_le
abbrev fQ:=@decide_eq_true
abbrev gI:=@trivial
abbrev iz:=@getElem?_eq_getElem
abbrev iS:=@not_mem_nil
abbrev jI:=@mem_cons_of_mem
abbrev kr:=@length_cons
abbrev kt:=@mem_of_getElem?
abbrev ku:=@Option.getD_some
abbrev kL:=@length_take
abbrev lr:=@of_decide_eq_true
abbrev lu:=@mem_of_mem_take
abbrev lx:=@beq_eq_false_iff_ne
abbrev lE:=@if_false
abbrev lU:=@getElem_mem
abbrev lV:=@length_map
abbrev lW:=@mem_cons_self
abbrev mj:=@Array.getElem?_toList
abbrev mq:=@Array.length_toList
abbrev mI:=@map_append
abbrev mQ:=@List.getElem?_eq_some_iff
abbrev mR:=@mem_of_mem_drop
abbrev nz:=@take_of_length_le
abbrev nI:=@if_true
abbrev ot:=@nil_append
abbrev ou:=@Nat.zero_add
abbrev oS:=@Nat.lt_of_lt_of_le
abbrev oT:=@take_length
abbrev oU:=@Ne.symm
abbrev pG:=@decide_eq_true_eq
abbrev qj:=@Array.getElem?_eq_some_iff
abbrev qk:=@all_eq_true
abbrev ql:=@getElem?_map
abbrev q7:=@Nat.mul_one
abbrev r7:=@length_nil
abbrev r8:=@length_drop
abbrev sK:=@map_map
abbrev sL:=@cons_append
abbrev sM:=@or_false
abbrev sO:=@Int.toNat_natCast
abbrev tO:=@Array.toArray_toList
abbrev tP:=@Nat.lt_irrefl
abbrev aiL:=@Bool.and_eq_true
abbrev u9:=@mem_filter
abbrev u':=@not_lt_zero
abbrev vd:=@append_nil
abbrev ve:=@Option.some.inj
abbrev wg:=@Bool.eq_iff_iff
abbrev wh:=@append_assoc
abbrev wi:=@Nat.add_zero
abbrev wj:=@eq_nil_of_length_eq_zero
abbrev wm:=@ext_getElem?
abbrev wq:=@mem_or_eq_of_mem_set
abbrev wu:=@length_set
abbrev wY:=@Prod.ext
abbrev wZ:=@mem_range
abbrev xb:=@Array.ext_getElem?
abbrev xd:=@map_cons
abbrev xe:=@le_add_right
abbrev yk:=@getElem_of_mem
abbrev yl:=@beq_iff_eq
abbrev ym:=@foldl_cons
abbrev yn:=@Nat.zero_lt_one
abbrev zm:=@size_toArray
abbrev zn:=@Array.replicate_succ
abbrev zp:=@Array.replicate_zero
abbrev tU:=@push_toArray
abbrev tV:=@append_toArray
abbrev tW:=@Nat.min_eq_left
abbrev tX:=@bne_eq_false_iff_eq
abbrev tY:=@getD_eq_getElem?_getD
abbrev tZ:=@eq_zero_or_pos
abbrev vO:=@Option.bind_some
abbrev vP:=@nodup_cons
abbrev vQ:=@not_true_eq_false
abbrev xf:=@take_succ_eq_append_getElem
abbrev xg:=@of_decide_eq_false
abbrev xh:=@mem_iff_getElem
abbrev xi:=@Nat.zero_mul
abbrev xj:=@nodup_append
abbrev xk:=@Option.some.injEq
abbrev yP:=@Option.map_eq_some_iff
abbrev yQ:=@Classical.byContradiction
abbrev zY:=@flatMap_cons
abbrev zZ:=@take_append_drop
abbrev z6:=@Classical.em
abbrev z7:=@length_pos_iff
abbrev z8:=@getElem?_set
abbrev z':=@set_cons_zero
abbrev Aa:=@Option.elim_some
abbrev Ab:=@foldl_append
abbrev Bv:=@pairwise_cons
abbrev Bw:=@drop_of_length_le
abbrev Bx:=@length_eq_zero_iff
abbrev By:=@mem_flatMap
abbrev Bz:=@Nat.lt_succ_iff_lt_or_eq
abbrev BB:=@mem_of_mem_eraseIdx
abbrev Eg:=@drop_eq_getElem_cons
abbrev Eh:=@set_cons_succ
abbrev Ei:=@length_filter_le
abbrev Ej:=@mem_append_right
abbrev GO:=@getElem?_append_right
abbrev GQ:=@mul_le_mul_right
abbrev GR:=@getElem?_append_left
abbrev GS:=@Nat.add_assoc
abbrev GU:=@mem_filterMap
abbrev GV:=@findIdx?_eq_some_iff_getElem
abbrev GX:=@length_eraseIdx_le
abbrev GY:=@pairwise_iff_getElem
abbrev Kb:=@Option.map_some
abbrev Kc:=@getElem?_toArray
abbrev Kd:=@Bool.false_eq_true
abbrev Ke:=@Bool.eq_false_iff
abbrev Kg:=@getElem?_append
abbrev Kh:=@Option.toList_some
abbrev Pb:=@Nat.add_sub_cancel
abbrev Pc:=@Nat.pow_le_pow_right
abbrev Pd:=@Bool.false_ne_true
abbrev Pe:=@decide_eq_false_iff_not
abbrev Pf:=@ByteArray.size_append
abbrev cI:=Value
abbrev dC:=TypeId
abbrev fh:=ByteArray
abbrev kS:=Program
abbrev Fi:=FuncId
abbrev CP_:=Calls prog
abbrev cD:=List Nat
abbrev fJ:=Array Value
abbrev cB:=World
theorem jR{P:Prop}(h:P:=by decide):P:=h
theorem mB{P:Prop}(h:P:=by rfl):P:=h
theorem cX{P:Prop}(h:P:=by kernel_rfl):P:=h
theorem cw{P:Prop}(h:P:=by omega):P:=h
theorem dU{P:Prop}(h:P:=by simp):P:=h
theorem dk_{P:Prop}(h:P:=by decide+kernel):P:=h
theorem pR{P:Prop}(h:P:=by exact lr rfl):P:=h
theorem iG{P:Prop}(h:P:=by grind):P:=h
def c8{α:Sort _}(v:α):∃x,v=x:=⟨v,rfl⟩
def eW{α:Sort _}(v:α):∃x,x=v:=⟨v,rfl⟩
end Go.Proofs.YtklligbjoplbgaaGreat
namespace Go.RowKit
def Hid.o{p:Prop}(h:Hid p):p:=h
end Go.RowKit
namespace Go.Proofs.YtklligbjoplbgaaGreat
def ae{α:Sort _}{a:α}:a=a:=rfl
section
variable {P:Prop}
def ar(h:P:=by exact λD e=>e):P:=h
def au(h:P:=by exact .inr ae):P:=h
def aw(h:P:=by exact⟨ae,S.b⟩):P:=h
def ax(h:P:=by exact .inl ae):P:=h
def ay(h:P:=by exact⟨ae,ae⟩):P:=h
def az(h:P:=by simp;omega):P:=h
def aD(h:P:=by grind[cF]):P:=h
def aE(h:P:=by exact show ¬((0:Int)≠0) from λh=>h ae):P:=h
def aF(h:P:=by exact λw h=>h.row 0 ae):P:=h
def aG(h:P:=by exact⟨_,ae,gz _ _ _ _,S.b⟩):P:=h
def aH(h:P:=by intros;contradiction):P:=h
def aI(h:P:=by unfold maxLen;omega):P:=h
def aJ(h:P:=by exact lC<|⟨_,by rw[cP (q:=q) ae];rfl,gg.nil _ _,S.x,S.fr⟩):P:=h
def aK(h:P:=by assumption):P:=h
def aN(h:P:=by exact(fO _ _).alloc (dK _) _):P:=h
def aO(h:P:=by exact⟨g,s,ae,ae,S.x.at,ae,id,S.fr⟩):P:=h
def aQ(h:P:=by exact lC<|⟨_,ae,ae,S.x,S.fr⟩):P:=h
def aR(h:P:=by exact gz _ _ _ _):P:=h
def aS(h:P:=by unfold ee;omega):P:=h
def aT(h:P:=by exact yq _ _ _ _ ae):P:=h
def aV(h:P:=by exact .inl dU):P:=h
def aW(h:P:=by exact lC<|⟨_,ae,qX _ _,S.b⟩):P:=h
def aX(h:P:=by simp[fP]):P:=h
def aY(h:P:=by exact⟨_,_,ae,gQ,dA,gg.nil _ _,dy,S.x,S.fr⟩):P:=h
def aZ(h:P:=by show E<We.heap.size;omega):P:=h
def a8(h:P:=by simp[Value.oneCell']):P:=h
def bd(h:P:=by intro o ho;cases ho):P:=h
def bf(h:P:=by rw[kL];omega):P:=h
def bg(h:P:=by exact cu.alloc _ _ _ _):P:=h
def bh(h:P:=by exact h.le (xe _ _)):P:=h
def bj(h:P:=by exact⟨_,ae,S.o0,S.b⟩):P:=h
def bp(h:P:=by grind[fP]):P:=h
def br(h:P:=by decide):P:=h
def bu(h:P:=by exact nQ S 0 ae ae ae mP ae<|⟨_,ae,⟨c,ae,q.o,S.iF n.o⟩,S.b⟩):P:=h
def bw(h:P:=by exact⟨_,ae,⟨[],H.o _ _,ae⟩,S.b⟩):P:=h
def bx(h:P:=by exact⟨.refl _,by simp⟩):P:=h
def bz(h:P:=by simp[fi]):P:=h
def bA(h:P:=by have f:=S.q0.cellAt (j:=0) (u:=.int .u64 c) cw ae;exact f):P:=h
def bB(h:P:=by exact lC<|⟨_,_,ae,⟨c,ae,l.o,S.iF k.o⟩,gg.nil _ _,S.b⟩):P:=h
def bC(h:P:=by exact⟨g,s,ae,ae,S.x.1.1.at,ae,id,S.fr⟩):P:=h
def bD(h:P:=by rw[hz2];omega):P:=h
def bE(h:P:=by grind[maxLen]):P:=h
def bF(h:P:=by rw[xi,wi];rfl):P:=h
def bG(h:P:=by simpa using h):P:=h
def bH(h:P:=by exact(H.cx S.b).c2):P:=h
def bI(h:P:=by exact lC<|⟨_,ae,⟨c,ae,p.o,S.iF g.o⟩,S.b⟩):P:=h
def bJ(h:P:=by intro h;rw[<-Bx,cV] at h;omega):P:=h
def bK(h:P:=by exact⟨_,ae,gz _ _ _ _,eD.nil _,S.b⟩):P:=h
def bL(h:P:=by exact⟨h.text,h.pK,by grind⟩):P:=h
def bM(h:P:=by exact⟨by rw[f.o];rfl,S.b⟩):P:=h
def bN(h:P:=by simp;exact G.pK):P:=h
def bO(h:P:=by rw[<-hbo];rfl):P:=h
def bP(h:P:=by exact λw h=>h.row 1 ae):P:=h
def bQ(h:P:=by first | rfl):P:=h
def bR(h:P:=by simp_all):P:=h
def bS(h:P:=by exact⟨_,ae,⟨λh=>absurd h t.o,λ_=>⟨ae,S.x.1.1.dev⟩⟩,S.fr⟩):P:=h
def bT(h:P:=by exact⟨0,cw,ae,cq ⟨λj y _ h=>by omega,S.o⟩⟩):P:=h
def bU(h:P:=by rw[<-hxs];exact(D.o.cx S.b).c2):P:=h
def bV(h:P:=by exact⟨g,s1,ae,ae,S.x.at,ae,id,S.fr⟩):P:=h
def bW(h:P:=by rw[<-e.2.1];exact f):P:=h
def bX(h:P:=by rw[hq];exact hA):P:=h
def bY(h:P:=by exact .inl (by simp[fi])):P:=h
def bZ(h:P:=by grind[cF,np]):P:=h
def cg(h:P:=by exact λw h=>h.row 2 ae):P:=h
def cj(h:P:=by exact .inl ⟨ae,ae⟩):P:=h
def aj0(h:P:=by exact .inr ⟨ae,ae⟩):P:=h
def aj1(h:P:=by grind[kg]):P:=h
def aj2(h:P:=by exact⟨_,ae,⟨λh=>absurd (show(91:Int)=0 from h) jR,λ_=>⟨ae,S.x⟩⟩,S.fr⟩):P:=h
def aj3(h:P:=by exact⟨_,_,_,ae,ZZ _ _,gz _ _ _ _,eD.nil _,gg.nil _ _,dy,S.x.1.1,S.fr⟩):P:=h
def aj4(h:P:=by obtain⟨d,f,e,_⟩:=C.o;exact⟨d,f,e⟩):P:=h
def aj5(h:P:=by exact⟨0,cw,ae,cq ⟨λj _ h=>absurd h (u' _),S.o⟩⟩):P:=h
def aj6(h:P:=by exact lC<|⟨_,by rw[p.o];rfl,by rw[p.o];rfl,S.b⟩):P:=h
def aj7(h:P:=by exact⟨by rw[f.o];rfl,by rw[f.o];exact S.x,S.fr⟩):P:=h
def aj8(h:P:=by exact⟨_,_,ae,F7.nil _ _,gg.nil _ _,dy,S.x,S.fr⟩):P:=h
def aj9(h:P:=by exact⟨_,ae,ae,⟨G,g,M,S.x.1.at,ae,b.o⟩,S.fr⟩):P:=h
def aka(h:P:=by exact lC<|⟨_,ae,⟨c,ae,HC.o,S.iF X.o⟩,S.b⟩):P:=h
def akb(h:P:=by show 1<=s1.cA;rw[d4];exact G.Ud):P:=h
def akc(h:P:=by rw[<-mq (xs:=A),l.o];exact zB):P:=h
def akd(h:P:=by rw[HA.o];exact J.o _ S.b):P:=h
def ake(h:P:=by as_aux_lemma=>kernel_rfl):P:=h
def akf(h:P:=by exact⟨_,ae,gg.nil _ _,dy,S.x,S.fr⟩):P:=h
def akg(h:P:=by rw[<-mq,l.o];exact yy):P:=h
def akh(h:P:=by show 0<m.length;omega):P:=h
def aki(h:P:=by rw[getElem_set_self]):P:=h
def akj(h:P:=by rw[wu];exact h.fit.1):P:=h
def akk(h:P:=by rw[hc];exact htr.fit):P:=h
def akl(h:P:=by exact⟨by rw[e];rfl,hS.o.2.fr.cx⟩):P:=h
def akm(h:P:=by have:=k.o.2.1;omega):P:=h
def akn(h:P:=by have:=k.o.2.2;omega):P:=h
def ako(h:P:=by rw[HA.o];kernel_rfl):P:=h
def akp(h:P:=by exact⟨_,ae,gg.nil _ _,S.x,S.fr⟩):P:=h
def akq(h:P:=by simp[maxLen];omega):P:=h
def akr(h:P:=by rw[<-g];exact lU a):P:=h
def aks(h:P:=by rw[hc];exact f.fit):P:=h
def akt(h:P:=by exact⟨by rw[d.o];rfl,ES _ _ _⟩):P:=h
def aku(h:P:=by exact⟨.inl (dK _),_,htl,ae,ae⟩):P:=h
def akv(h:P:=by rw[l.o];exact yy):P:=h
def akw(h:P:=by have:=HC.o;omega):P:=h
def akx(h:P:=by rw[hxx];exact hA):P:=h
def aky(h:P:=by rw[hq];exact hAQ):P:=h
def akz(h:P:=by unfold mF;grind):P:=h
def akA(h:P:=by have:=n.o;omega):P:=h
def akB(h:P:=by rw[g];exact hA):P:=h
def akC(h:P:=by exact cq ⟨yO _ _,S.x,S.fr⟩):P:=h
def akD(h:P:=by exact⟨by rw[b.o];rfl,S.b⟩):P:=h
def akE(h:P:=by exact⟨by rw[c.o];rfl,S.b⟩):P:=h
def akF(h:P:=by simp_all[fP]):P:=h
def akG(h:P:=by exact⟨by rw[a.o];rfl,ae⟩):P:=h
def akH(h:P:=by exact lC<|⟨_,ae,⟨⟨bn,m,s_ g 0,k⟩,ae,by unfold dD.t;rw[C.o.2.1],Lg C.o.1 S.o0 S.x C.o.2.2⟩,S.b⟩):P:=h
def akI(h:P:=by exact⟨cu.fr a.1 f (.inl ae) (.inl a.2.1),a.2.1,a.2.2.imp id λg D e=>KQ (g D e) f (h.UG D e)⟩):P:=h
def akJ(h:P:=by intro v hv;simp only[ib,iS,sM] at hv;rcases hv with rfl | rfl | rfl <;> rfl):P:=h
def akK(h:P:=by exact gE (ug ae _ _ _) ae<|⟨⟨_,ae⟩,.inr ⟨_,by rw[<-l.o];exact take_prefix _ _,hJx3⟩⟩):P:=h
def akL(h:P:=by show Value.slice (s_ x 0) (i+1) u=Value.slice (s_ x 0) (0+i+1) u;rw[ou]):P:=h
def akM(h:P:=by exact El (ug ae _ _ _) ae<|⟨⟨_,ae⟩,.inl ⟨_,ae,by rw[nz sp_] at d;exact d⟩⟩):P:=h
def akN(h:P:=by exact⟨_,_,_,_,_,⟨k+1,cw,ae,_,_,ae,cq ⟨_,by simpa using S⟩⟩,ae,ae,ae,ae,ae⟩):P:=h
def akO(h:P:=by exact(((fO _ _).alloc (dK _) _).alloc (by rw[s1];omega) _).alloc (by rw[s2];omega) _):P:=h
def akP(h:P:=by exact FB S 2 ae ae ae mP ae<|⟨_,_,ae,⟨c,ae,HC.o,S.iF L.o⟩,gg.nil _ _,S.b⟩):P:=h
def akQ(h:P:=by exact show qg w.heap.size y from λr b s=>gO S.fr.size ((qW.of J.2).2 r b s)):P:=h
def akR(h:P:=by exact b _ _ (h _ (S.alloc ty (show(#[v]:Array cI)=ct 1 (λ_=>v) from ae) ho))):P:=h
def akS(h:P:=by exact⟨⟨by grind,by grind,by grind,by grind,λh a=>by grind⟩,ae,ae,ae⟩):P:=h
def akT(h:P:=by exact S.grow s (by grind[tj,qS]) (by rw[e];exact(b.stored i v).1) r (.inl r)):P:=h
def akU(h:P:=by exact⟨_,_,_,ae,ZZ _ _,gz _ _ _ _,eD.nil _,gg.nil _ _,dy,S.x.1.1.1,S.fr⟩):P:=h
def akV(h:P:=by exact⟨ae,ae,h.ba,by show _<=Pl.cA _/\Pl.cA _<=_;rw[h.st];omega,by simp⟩):P:=h
def akW(h:P:=by exact⟨_,ae,⟨λh=>absurd h o.o,λ_=>⟨ae,(m.o.2 o.o).2⟩⟩,l.o⟩):P:=h
def akX(h:P:=by exact nQ S 1 ae ae ae eN ae<|⟨by rw[cP (q:=cH) ae];rfl,S.x,S.fr⟩):P:=h
def akY(h:P:=by intro v F;simp only[ib,iS,sM] at F;rw[F];rfl):P:=h
def akZ(h:P:=by exact⟨0,replicate n mb,cw,ae,cq ⟨by simp,ae,by simp,S.o⟩⟩):P:=h
def ak0(h:P:=by obtain⟨d,f,e,_⟩:=HI.o;exact⟨d,f,e⟩):P:=h
def ak1(h:P:=by intro h;rw[<-Bx,cV] at h;have:=f.o;omega):P:=h
def ak2(h:P:=by exact show cK w 106 3 g.hv g.dx.length (gY g.dx) from h.dx):P:=h
def ak3(h:P:=by exact⟨_,by rw[d.o];rfl,by rw[d.o];exact gz _ _ _ _,S.b⟩):P:=h
def ak4(h:P:=by exact⟨_,by rw[t.o];rfl,by rw[t.o];exact gz _ _ _ _,S.b⟩):P:=h
def ak5(h:P:=by exact⟨_,by rw[f.o];rfl,by rw[f.o];exact gz _ _ _ _,S.b⟩):P:=h
def ak6(h:P:=by exact⟨_,by rw[f.o];rfl,by rw[f.o];exact ab9 a S.o0,S.b⟩):P:=h
def ak7(h:P:=by exact cu.alloc_old (cu.alloc_old (cu.alloc _ _ _ _) _) _):P:=h
def ak8(h:P:=by exact lC<|⟨_,by rw[cP (q:=p3) ae];rfl,S.o0,S.x,S.fr⟩):P:=h
def ak9(h:P:=by unfold maxLen;simp only[kr];omega):P:=h
def ala(h:P:=by exact cq ⟨_,⟨ae,ae⟩,yO _ _,S.x.1.1.1.dev,S.fr⟩):P:=h
def alb(h:P:=by exact below_setRow ((fO _ _).alloc (dK _) _) (dK _) _):P:=h
def alc(h:P:=by exact⟨_,_,ae,F7.nil _ _,gg.nil _ _,dy,S.x.1,S.fr⟩):P:=h
def ald(h:P:=by have:=g.o;have:=y.o;simp;omega):P:=h
def ale(h:P:=by unfold nt;rw[hv];simp only[hi]):P:=h
def alf(h:P:=by rw[<-hpx];exact(V.o.cx S.b).c2):P:=h
def alg(h:P:=by rw[(S.x.2.sl.at E.o).c2,HSP.o]):P:=h
def alh(h:P:=by rw[<-hs];exact(G.o.cx S.b).c2):P:=h
def ali(h:P:=by obtain⟨_,S⟩:=z;exact S.k1):P:=h
def alj(h:P:=by unfold maxLen;simp only;omega):P:=h
def alk(h:P:=by intro h;rw[h] at c;simp at c):P:=h
def alm(h:P:=by rw[<-s];exact(G.o.cx S.b).c2):P:=h
def aln(h:P:=by exact show T=tT y.id q1 iV (g.gt s1) from b.o):P:=h
def alo(h:P:=by show(0:Nat)+20000<=_;omega):P:=h
def alp(h:P:=by have:=cu.lt f.o.2.1;omega):P:=h
def alq(h:P:=by have:=u.1;unfold ee;omega):P:=h
end
def ag{f:FuncId}{g:Array Value}{w:World}{α:Type}{v:α->Value}{R:α->World->Prop}{K:Ending->World->Prop}(h:CP_ f g w λe w'=>∃a,e=.returned (v a)/\R a w')(k:∀a W,R a W->K (.returned (v a)) W):CP_ f g w K:=h.mono (by rintro _ _ ⟨a,rfl,h⟩;exact k _ _ h)
def ah{f:FuncId}{g:Array Value}{w:World}{v:Value}{R:World->Prop}{K:Ending->World->Prop}(h:CP_ f g w λe w'=>e=.returned v/\R w')(k:∀W,R W->K (.returned v) W):CP_ f g w K:=h.mono (by rintro _ _ ⟨rfl,h⟩;exact k _ h)
end Go.Proofs.YtklligbjoplbgaaGreat