/- Part 1 of 15 of the proof of WholeBytes; no conditions. -/
import Derived.KernelRfl
import Derived.Lib.Hide
import Derived.Test.YtklligbjoplbgaaGreatProg
namespace Go.Proofs.YtklligbjoplbgaaGreat
set_option linter.all false
set_option maxRecDepth 100000
set_option maxHeartbeats 64000000
open Go.RowKit Lib List Nat _root_.Go.Proofs.Tryz
abbrev bC:=@if_pos
abbrev bX:=@if_neg
abbrev eO:=@Nat.le_refl
abbrev iE:=@decide_eq_false
abbrev kh:=@length_append
abbrev kL:=@Nat.le_trans
abbrev lh:=@bne_iff_ne
abbrev ly:=@decide_eq_true
abbrev gz:=@mem_singleton
abbrev iI:=@mem_cons
abbrev iS:=@congrArg
abbrev jn:=@mem_append
abbrev j4:=@getElem?_eq_getElem
abbrev kf:=@zero_le
abbrev kz:=@not_mem_nil
abbrev kO:=@trivial
abbrev k':=@beq_eq_false_iff_ne
abbrev lK:=@of_decide_eq_true
abbrev lY:=@mem_map
abbrev mb:=@Option.getD_some
abbrev nf:=@mem_of_getElem?
abbrev o8:=@length_cons
abbrev pr:=@length_map
abbrev pt:=@map_append
abbrev pM:=@length_take
abbrev p9:=@Array.length_toList
abbrev qx:=@Array.getElem?_toList
abbrev rC:=@Nat.zero_add
abbrev rD:=@mem_of_mem_take
abbrev sy:=@List.getElem?_eq_some_iff
abbrev tW:=@getElem_mem
abbrev tX:=@take_of_length_le
abbrev tY:=@getElem?_map
abbrev tZ:=@or_false
abbrev uj:=@Nat.lt_of_lt_of_le
abbrev vF:=@mem_of_mem_drop
abbrev we:=@length_nil
abbrev wh:=@take_length
abbrev wv:=@nil_append
abbrev wx:=@of_decide_eq_false
abbrev wy:=@Nat.mul_one
abbrev wz:=@if_true
abbrev yl:=@Ne.symm
abbrev yy:=@decide_eq_true_eq
abbrev yz:=@mem_cons_of_mem
abbrev zY:=@Array.getElem?_eq_some_iff
abbrev Aj:=@cons_append
abbrev Ak:=@all_eq_true
abbrev Al:=@Nat.lt_irrefl
abbrev BQ:=@Int.toNat_natCast
abbrev CI:=@Nat.add_zero
abbrev CK:=@Array.toArray_toList
abbrev Ek:=@length_drop
abbrev El:=@Option.some.inj
abbrev Em:=@beq_iff_eq
abbrev En:=@length_set
abbrev Eo:=@le_add_right
abbrev ER:=@Array.ext_getElem?
abbrev ES:=@not_lt_zero
abbrev ET:=@append_nil
abbrev EU:=@ext_getElem?
abbrev Hh:=@append_assoc
abbrev Hi:=@mem_or_eq_of_mem_set
abbrev Jh:=@Bool.and_eq_true
abbrev Ji:=@size_toArray
abbrev Jj:=@Array.replicate_succ
abbrev Jk:=@Array.replicate_zero
abbrev Jl:=@push_toArray
abbrev Jm:=@append_toArray
abbrev Jn:=@Nat.min_eq_left
abbrev Jo:=@mem_iff_getElem
abbrev Jp:=@eq_nil_of_length_eq_zero
abbrev Jq:=@if_false
abbrev Jr:=@Nat.zero_lt_one
abbrev DX:=@Bool.eq_iff_iff
abbrev DY:=@bne_eq_false_iff_eq
abbrev DZ:=@getD_eq_getElem?_getD
abbrev D0:=@mem_cons_self
abbrev EV:=@map_map
abbrev EW:=@take_succ_eq_append_getElem
abbrev EX:=@Option.bind_some
abbrev EY:=@Nat.zero_mul
abbrev EZ:=@Option.some.injEq
abbrev E0:=@set_cons_zero
abbrev E':=@Option.elim_some
abbrev Hx:=@length_pos_iff
abbrev Hy:=@eq_zero_or_pos
abbrev Hz:=@foldl_cons
abbrev Kl:=@Classical.em
abbrev Km:=@foldl_append
abbrev Mk:=@length_eq_zero_iff
abbrev Ml:=@Nat.lt_succ_iff_lt_or_eq
abbrev Pa:=@getElem?_set
abbrev Pb:=@set_cons_succ
abbrev Sv:=@take_append_drop
abbrev Sw:=@getElem?_append_right
abbrev Sx:=@Nat.pow_le_pow_right
abbrev Sy:=@mul_le_mul_right
abbrev Sz:=@mem_filterMap
abbrev SA:=@length_filter_le
abbrev U9:=@drop_eq_getElem_cons
abbrev Va:=@Option.map_some
abbrev Vb:=@Nat.add_assoc
abbrev Vc:=@getElem?_append_left
abbrev Vd:=@getElem?_toArray
abbrev Ve:=@Bool.eq_false_iff
abbrev Vf:=@getElem?_append
abbrev Vg:=@Option.toList_some
abbrev XY:=@Option.map_eq_some_iff
abbrev XZ:=@Bool.false_ne_true
abbrev X0:=@Nat.lt_of_le_of_lt
abbrev X1:=@findIdx?_eq_some_iff_getElem
abbrev X2:=@mem_of_mem_eraseIdx
abbrev X3:=@Option.isSome_none
abbrev X4:=@Option.isSome_some
abbrev bh:=Value
abbrev dD:=TypeId
abbrev lf:=ByteArray
abbrev pw:=Program
abbrev Rk:=FuncId
abbrev aK:=List Nat
abbrev iw:=Array Value
abbrev aD:=World
theorem nh {P:Prop} (h:P:=by decide):P:=h
theorem pB {P:Prop} (h:P:=by rfl):P:=h
theorem cm {P:Prop} (h:P:=by kernel_rfl):P:=h
theorem au {P:Prop} (h:P:=by omega):P:=h
theorem fh {P:Prop} (h:P:=by simp):P:=h
theorem dk_ {P:Prop} (h:P:=by decide+kernel):P:=h
theorem qv {P:Prop} (h:P:=by exact lK rfl):P:=h
theorem rE {P:Prop} (h:P:=by grind):P:=h
theorem cM {α:Sort _} (v:α): ∃x,v=x:=⟨v,rfl⟩
theorem gq {α:Sort _} (v:α): ∃x,x=v:=⟨v,rfl⟩
end Go.Proofs.YtklligbjoplbgaaGreat
namespace Go.RowKit
theorem Hid.o {p:Prop} (h:Hid p):p:=h
end Go.RowKit
namespace Go.Proofs.YtklligbjoplbgaaGreat
end Go.Proofs.YtklligbjoplbgaaGreat
