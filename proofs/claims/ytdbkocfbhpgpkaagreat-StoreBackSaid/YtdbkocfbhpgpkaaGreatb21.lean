/-
  page.Below, tree.weight, tree.size: the walks; what the calls of octets do, as the evaluator wants it.
-/
import Derived.Test.YtdbkocfbhpgpkaaGreatb15
import Derived.Test.YtdbkocfbhpgpkaaGreatb01
set_option linter.unusedVariables false
set_option linter.unusedSimpArgs false
namespace Go.Ev
open Go Go.RowKit Go.Proofs Go.Proofs.YtdbkocfbhpgpkaaGreat
def BelowIs(cs:List NC)(l:List UInt8)(j:Nat):Prop:=j≤cs.length∧(∀ i (h:i<cs.length),i<j→Lib.compareBytes cs[i].key l≤0)∧∀ h:j<cs.length,0<Lib.compareBytes cs[j].key l
end Go.Ev
namespace Go.Proofs.YtdbkocfbhpgpkaaGreat
open Go Go.RowKit Go.Shelf
open Go.Ev (PgM PageOk BelowIs)
set_option maxRecDepth 100000
set_option maxHeartbeats 4000000
theorem weight_any(A B:Option Addr)(n c m d:Nat)(hn:n≤1000000)(hm:m≤1000000)(w:World) :
    Calls Tryz.prog 314 #[.agg #[.slice A n c,.slice B m d]] w fun e w'=>e=.returned (.int .i64 ((6+n+m:Nat):Int))∧Below w.heap.size w w':=by
  have n1:IntKind.i64.wrap (6+(n:Int))=((6+n:Nat):Int):=by rw[IntKind.wrap_i64];omega
  have n2:IntKind.i64.wrap (((6+n:Nat):Int)+(m:Int))=((6+n+m:Nat):Int):=by rw[IntKind.wrap_i64];omega
  go_enter Tryz.func314,Tryz.ntmps314
  go_wp2
  go_ret
  exact⟨by simp,(Below.refl _ _).alloc (Nat.le_refl _) _⟩
theorem cmp_sign{A C:Option Addr}{c d n m:Nat}{l k:List UInt8}{w:World}(hr:Rd w w.heap.size A l)(hm:Rd w w.heap.size C k)(hn:n=l.length)(hn2:m=k.length) :
    Calls Tryz.prog 192 #[.slice A n c,.slice C m d] w fun e w'=>∃ z:Int,e=.returned (.int .i64 z)∧z=Lib.compareBytes l k∧w'=w:=by
  refine(cmp_any A C c d n m l k w hr hm hn hn2).mono ?_
  rintro e w' ⟨rfl,rfl⟩
  exact⟨_,rfl,rfl,rfl⟩
theorem below_call(x y:Value)(cs:List NC)(A B:Option Addr)(n c m d j:Nat)(l:List UInt8)(w:World)(hx:x.oneCell'=true)(hy:y.oneCell'=true)(hn:n=cs.length)(hn1:n≤100000)(hp:PgM w w.heap.size A cs)(hr:Rd w w.heap.size B l)(hm:m=l.length)(hj:BelowIs cs l j) :
    Calls Tryz.prog 277 #[.agg #[x,y,.slice A n c],.slice B m d] w fun e w'=>e=.returned (.int .i64 (j:Nat))∧Below w.heap.size w w':=by
  obtain⟨j1,j2,j3⟩:=hj
  rw[← hn] at j1
  have HN:=Lib.hid hn
  have HM:=Lib.hid hm
  obtain⟨wb,hwb⟩:∃ wb,wb=w.alloc (.cells #[x,y,.slice A n c] 116):=⟨_,rfl⟩
  have hb1:Below w.heap.size w wb:=by rw[hwb];exact(Below.refl _ _).alloc (Nat.le_refl _) _
  have hz0:wb.heap.size=w.heap.size+1:=by rw[hwb];simp
  have hz1:w.heap.size<wb.heap.size:=by omega
  have c2:wb.cell? ⟨w.heap.size,2,none⟩=some (.slice A n c):=by rw[hwb,World.cell?_alloc_at _ _ _ _ rfl];rfl
  have HP:=Lib.hid (hp.below hb1)
  have HR:=Lib.hid (hr.below hb1)
  have HJ2:=Lib.hid j2
  have HJ3:=Lib.hid j3
  clear hn hm hp hr j2 j3 hz0
  go_enter Tryz.func277,Tryz.ntmps277
  go_upto_region 1 with fail
  rw[← hwb]
  clear hwb
  go_wp2
  go_loopw [10] (fun i wr=>∃ k:Nat,k≤j∧i=.int .i64 k∧Below wb.heap.size wb wr) (fun i _=>n-natOf i)
  case atStart=>exact⟨0,by omega,rfl,Below.refl _ _⟩
  case round=>
    obtain⟨k,hk,rfl,hb⟩:=hrel
    have hbz:=hb.size
    by_cases hlt:k<n
    · have hkl:k<cs.length:=by have:=HN.out;omega
      have hpw:=(HP.out.below (hb.mono (by omega)))
      obtain⟨b,o,ka,kc,va,vc,rfl,hbb,e1,e2,hk1,hv1⟩:=hpw.at_ hkl
      have hrk:=Lib.hid ((hk1.alloc (by omega) (.cells #[.slice ka cs[k].kn kc,.slice va cs[k].vn vc] 219)).more (B':=(wr.alloc (.cells #[.slice ka cs[k].kn kc,.slice va cs[k].vn vc] 219)).heap.size) (by simp;omega))
      have hrl:=Lib.hid (((HR.out.below (hb.mono (by omega))).alloc (by omega) (.cells #[.slice ka cs[k].kn kc,.slice va cs[k].vn vc] 219)).more (B':=(wr.alloc (.cells #[.slice ka cs[k].kn kc,.slice va cs[k].vn vc] 219)).heap.size) (by simp;omega))
      have hb':=hb.alloc (by omega) (.cells #[.slice ka cs[k].kn kc,.slice va cs[k].vn vc] 219)
      clear hk1 hv1 hpw
      by_cases hkj:k<j
      · have hs:=HJ2.out k hkl hkj
        go_wp2_with (go_at_call 192;with_reducible refine(cmp_sign (l:=cs[k].key) (k:=l) hrk.out hrl.out (by simp[NC.key,bl_length]) HM.out).mono ?_;rintro e w5 ⟨z,rfl,hz,hw5⟩;rw[hw5];clear hw5 w5;rw[← hz] at hs;have hs2:¬(0<z):=by omega)
        go_roundw
        case rel=>exact⟨k+1,by omega,by go_num,hb'⟩
        case measure=>simp[natOf]<;>omega
      · obtain rfl:k=j:=by omega
        have hs:=HJ3.out hkl
        go_wp2_with (go_at_call 192;with_reducible refine(cmp_sign (l:=cs[k].key) (k:=l) hrk.out hrl.out (by simp[NC.key,bl_length]) HM.out).mono ?_;rintro e w5 ⟨z,rfl,hz,hw5⟩;rw[hw5];clear hw5 w5;rw[← hz] at hs)
        go_ret
        exact⟨rfl,hb1.trans (hb'.mono (by omega))⟩
    · obtain rfl:k=n:=by omega
      obtain rfl:j=k:=by omega
      have f2:wr.cell? ⟨w.heap.size,2,none⟩=some (.slice A j c):=(hb.cell (p:=⟨w.heap.size,2,none⟩) (by show w.heap.size<_;omega)).trans c2
      go_wp2
      go_ret
      exact⟨rfl,hb1.trans (hb.mono (by omega))⟩
theorem size_call(x y:Value)(cs:List NC)(A:Option Addr)(n c:Nat)(w:World)(hx:x.oneCell'=true)(hy:y.oneCell'=true)(hn:n=cs.length)(hn1:n≤10000)(hok:∀ c∈cs,c.Ok)(hp:PgM w w.heap.size A cs) :
    Calls Tryz.prog 281 #[.agg #[x,y,.slice A n c]] w fun e w'=>e=.returned (.int .i64 ((2 * n+bodyS cs:Nat):Int))∧Below w.heap.size w w':=by
  have HN:=Lib.hid hn
  have HOK:=Lib.hid hok
  obtain⟨wb,hwb⟩:∃ wb,wb=w.alloc (.cells #[x,y,.slice A n c] 116):=⟨_,rfl⟩
  have hb1:Below w.heap.size w wb:=by rw[hwb];exact(Below.refl _ _).alloc (Nat.le_refl _) _
  have hz0:wb.heap.size=w.heap.size+1:=by rw[hwb];simp
  have hz1:w.heap.size<wb.heap.size:=by omega
  have c2:wb.cell? ⟨w.heap.size,2,none⟩=some (.slice A n c):=by rw[hwb,World.cell?_alloc_at _ _ _ _ rfl];rfl
  have HP:=Lib.hid (hp.below hb1)
  have hS:∀ k,k≤n→bodyS (cs.take k)≤1000 * k:=by
    intro k
    induction k with
    | zero=>intro _;simp[bodyS]
    | succ k ih =>
      intro hk
      have hkl:k<cs.length:=by omega
      have h1:=bodyS_snoc cs k hkl
      have h2:=ih (by omega)
      have h3:=(hok _ (List.getElem_mem hkl)).k1
      have h4:=(hok _ (List.getElem_mem hkl)).v1
      omega
  have HS:=Lib.hid hS
  clear hn hok hp hz0 hS
  go_enter Tryz.func281,Tryz.ntmps281
  go_upto_region 1 with fail
  rw[← hwb]
  clear hwb
  go_wp2
  go_loopw [3,9] (fun s i wr=>∃ k:Nat,k≤n∧i=.int .i64 k∧s=.int .i64 ((2 * k+bodyS (cs.take k):Nat):Int)∧Below wb.heap.size wb wr) (fun _ i _=>n-natOf i)
  case atStart=>exact⟨0,by omega,rfl,by simp[bodyS],Below.refl _ _⟩
  case round=>
    obtain⟨k,hk,rfl,rfl,hb⟩:=hrel
    have hbz:=hb.size
    by_cases hlt:k<n
    · have hkl:k<cs.length:=by have:=HN.out;omega
      have hpw:=(HP.out.below (hb.mono (by omega)))
      obtain⟨b,o,ka,kc,va,vc,rfl,hbb,e1,e2,_,_⟩:=hpw.at_ hkl
      have hk1:=(HOK.out _ (List.getElem_mem hkl)).k1
      have hv1:=(HOK.out _ (List.getElem_mem hkl)).v1
      have hsn:=bodyS_snoc cs k hkl
      have hsb:=HS.out k hk
      obtain⟨p,hp⟩:∃ p,p=2 * k+bodyS (cs.take k):=⟨_,rfl⟩
      have HSN:=Lib.hid (show 2 * (k+1)+bodyS (cs.take (k+1))=p+(6+cs[k].kn+cs[k].vn) by omega)
      have hpb:p≤100000000:=by omega
      rw[← hp]
      clear hp hsn hsb hpw
      go_wp2_with (go_at_call 314;with_reducible refine(weight_any _ _ _ _ _ _ (by omega) (by omega) _).mono ?_;rintro e w4 ⟨rfl,hb4⟩)
      refine⟨⟨k+1,by omega,by go_num,?_,(hb.alloc (by omega) _).trans (hb4.mono (by simp;omega))⟩,by simp[natOf];omega⟩
      rw[HSN.out]
      refine congrArg (Value.int .i64) ?_
      push_cast
      omega
    · obtain rfl:k=n:=by omega
      rw[show cs.take k=cs from by rw[HN.out];exact List.take_length]
      go_wp2
      go_ret
      exact⟨rfl,hb1.trans (hb.mono (by omega))⟩
end Go.Proofs.YtdbkocfbhpgpkaaGreat
