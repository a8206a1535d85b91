/-
  The store's state in memory; what of it stays; page 1 as an atom sees it; versions of a key.
-/
import Derived.Test.YtdbkocfbhpgpkaaGreatProg
import Derived.Test.YtdbkocfbhpgpkaaGreatb03
import Derived.Test.YtdbkocfbhpgpkaaGreatb01
import Derived.WalkMore
import Derived.Deep.Cut
import Derived.Test.YtdbkocfbhpgpkaaGreatb24
import Derived.Test.YtdbkocfbhpgpkaaGreatb02
set_option linter.unusedVariables false
set_option linter.unusedSimpArgs false
namespace Go.Proofs.YtdbkocfbhpgpkaaGreat
set_option linter.unusedSimpArgs false
def revB (x:BitVec 64):BitVec 64:=
  let a:=((x >>> 8) &&& 71777214294589695#64) ||| ((x &&& 71777214294589695#64) <<< 8)
  let b:=((a >>> 16) &&& 281470681808895#64) ||| ((a &&& 281470681808895#64) <<< 16)
  (b >>> 32) ||| (b <<< 32)
theorem and_m1(i:Nat)(h:i<64):(71777214294589695#64).getLsbD i=decide (i / 8 % 2=0):=by
  have:∀ i:Fin 64,(71777214294589695#64).getLsbD i.1=decide (i.1 / 8 % 2=0):=by decide +kernel
  exact this ⟨i,h⟩
theorem and_m2(i:Nat)(h:i<64):(281470681808895#64).getLsbD i=decide (i / 16 % 2=0):=by
  have:∀ i:Fin 64,(281470681808895#64).getLsbD i.1=decide (i.1 / 16 % 2=0):=by decide +kernel
  exact this ⟨i,h⟩
def revI (i:Nat):Nat:=8 * (7-i / 8)+i % 8
theorem revB_bit(x:BitVec 64)(i:Nat)(h:i<64):(revB x).getLsbD i=x.getLsbD (revI i):=by
  have hm1:∀ j,(71777214294589695#64).getLsbD j=(decide (j<64) && decide (j / 8 % 2=0)):=fun j=>by
    by_cases hj:j<64
    · rw[and_m1 j hj];simp[hj]
    · simp[hj,BitVec.getLsbD_of_ge _ _ (Nat.le_of_not_lt hj)]
  have hm2:∀ j,(281470681808895#64).getLsbD j=(decide (j<64) && decide (j / 16 % 2=0)):=fun j=>by
    by_cases hj:j<64
    · rw[and_m2 j hj];simp[hj]
    · simp[hj,BitVec.getLsbD_of_ge _ _ (Nat.le_of_not_lt hj)]
  have:∀ i:Fin 64,∀ y:Nat→Bool,(∀ j,64≤j→y j=false) →
      (let a := fun i => (y (8 + i) && (decide (i < 64) && decide (i / 8 % 2 = 0))) || (decide (i < 64) && !decide (i < 8) && (y (i - 8) && (decide (i - 8 < 64) && decide ((i - 8) / 8 % 2 = 0))))
       let b:=fun i=>(a (16+i) && (decide (i<64) && decide (i / 16 % 2=0))) || (decide (i<64) && !decide (i<16) && (a (i-16) && (decide (i-16<64) && decide ((i-16) / 16 % 2=0))))
       b (32+i.1) || (decide (i.1<64) && !decide (i.1<32) && b (i.1-32)))=y (revI i.1):=by
    intro i y hy
    have h8:i.1<64:=i.2
    have e:∀ k,64≤k→y k=false:=hy
    revert i
    intro⟨i,hi⟩ _
    match i,hi with
    | 0,_=>simp[revI,e]
    | 1,_=>simp[revI,e]
    | 2,_=>simp[revI,e]
    | 3,_=>simp[revI,e]
    | 4,_=>simp[revI,e]
    | 5,_=>simp[revI,e]
    | 6,_=>simp[revI,e]
    | 7,_=>simp[revI,e]
    | 8,_=>simp[revI,e]
    | 9,_=>simp[revI,e]
    | 10,_=>simp[revI,e]
    | 11,_=>simp[revI,e]
    | 12,_=>simp[revI,e]
    | 13,_=>simp[revI,e]
    | 14,_=>simp[revI,e]
    | 15,_=>simp[revI,e]
    | 16,_=>simp[revI,e]
    | 17,_=>simp[revI,e]
    | 18,_=>simp[revI,e]
    | 19,_=>simp[revI,e]
    | 20,_=>simp[revI,e]
    | 21,_=>simp[revI,e]
    | 22,_=>simp[revI,e]
    | 23,_=>simp[revI,e]
    | 24,_=>simp[revI,e]
    | 25,_=>simp[revI,e]
    | 26,_=>simp[revI,e]
    | 27,_=>simp[revI,e]
    | 28,_=>simp[revI,e]
    | 29,_=>simp[revI,e]
    | 30,_=>simp[revI,e]
    | 31,_=>simp[revI,e]
    | 32,_=>simp[revI,e]
    | 33,_=>simp[revI,e]
    | 34,_=>simp[revI,e]
    | 35,_=>simp[revI,e]
    | 36,_=>simp[revI,e]
    | 37,_=>simp[revI,e]
    | 38,_=>simp[revI,e]
    | 39,_=>simp[revI,e]
    | 40,_=>simp[revI,e]
    | 41,_=>simp[revI,e]
    | 42,_=>simp[revI,e]
    | 43,_=>simp[revI,e]
    | 44,_=>simp[revI,e]
    | 45,_=>simp[revI,e]
    | 46,_=>simp[revI,e]
    | 47,_=>simp[revI,e]
    | 48,_=>simp[revI,e]
    | 49,_=>simp[revI,e]
    | 50,_=>simp[revI,e]
    | 51,_=>simp[revI,e]
    | 52,_=>simp[revI,e]
    | 53,_=>simp[revI,e]
    | 54,_=>simp[revI,e]
    | 55,_=>simp[revI,e]
    | 56,_=>simp[revI,e]
    | 57,_=>simp[revI,e]
    | 58,_=>simp[revI,e]
    | 59,_=>simp[revI,e]
    | 60,_=>simp[revI,e]
    | 61,_=>simp[revI,e]
    | 62,_=>simp[revI,e]
    | 63,_=>simp[revI,e]
    | n+64,h=>omega
  have h2:=this ⟨i,h⟩ (fun j=>x.getLsbD j) (fun j hj=>BitVec.getLsbD_of_ge x j hj)
  simp only[revB,BitVec.getLsbD_or,BitVec.getLsbD_ushiftRight,BitVec.getLsbD_shiftLeft,BitVec.getLsbD_and,hm1,hm2]
  exact h2
theorem revI_lt(i:Nat)(h:i<64):revI i<64:=by unfold revI;omega
theorem revI_two(i:Nat)(h:i<64):revI (revI i)=i:=by unfold revI;omega
theorem revB_two(x:BitVec 64):revB (revB x)=x:=by
  apply BitVec.eq_of_getLsbD_eq
  intro i hi
  rw[revB_bit _ i hi,revB_bit _ _ (revI_lt i hi),revI_two i hi]
end Go.Proofs.YtdbkocfbhpgpkaaGreat
namespace Go.Proofs.YtdbkocfbhpgpkaaGreat
open Go Go.RowKit
set_option maxRecDepth 100000
set_option maxHeartbeats 1600000
def esc1 (c:UInt8):List UInt8:=if c=0 then[0,255] else[c]
def esc (k:List UInt8):List UInt8:=k.flatMap esc1
def txt (k:List UInt8)(b:UInt8):List UInt8:=esc k++[0,b]
theorem esc1_len(c:UInt8):(esc1 c).length≤2:=by unfold esc1;split<;>simp
theorem esc_len(k:List UInt8):(esc k).length≤2 * k.length:=by
  induction k with
  | nil=>simp[esc]
  | cons c k ih=>have:=esc1_len c;simp only[esc,List.flatMap_cons,List.length_append,List.length_cons] at *;omega
theorem esc_snoc(k:List UInt8)(j:Nat)(h:j<k.length):esc (k.take (j+1))=esc (k.take j)++esc1 k[j]:=by
  unfold esc
  rw[List.take_succ_eq_append_getElem h,List.flatMap_append]
  simp
theorem Rd.pair(w:World)(x y:UInt8):Rd (w.alloc (.cells #[u8V x,u8V y] 5)) (w.heap.size+1) (some ⟨w.heap.size,0,none⟩) [x,y]:=fun _=>
  ⟨_,0,rfl,by omega,fun k hk=>by
    rw[Nat.zero_add,World.cell?_alloc_at _ _ _ _ rfl]
    have:k=0∨k=1:=by simp at hk;omega
    rcases this with rfl|rfl<;>rfl⟩
theorem cellV{w:World}{d:Nat}{cs:Array Value}{t:TypeId}{z:Nat×Nat}(h:w.heap[d]? = some (.cells cs t z))(k:Nat):w.cell? ⟨d,k,none⟩=cs[k]?:=by simp[World.cell?,h]
theorem frozenV{w:World}{d:Nat}{cs:Array Value}{t:TypeId}(h:w.heap[d]? = some (.cells cs t (0,0)))(k:Nat):w.frozen? ⟨d,k,none⟩=false:=by simp[World.frozen?,h]
theorem vput_any{w:World}{bx:Nat}{v:Value}{l news:List UInt8}{A:Option Addr}{m c:Nat}(hbx:w.heap[bx]? = some (.cells #[v] 33 (0,0)))(hown:Own w (bx+1) v l)(hr:Rd w w.heap.size A news)(hm:m=news.length)(hl:l.length+news.length≤1000000) :
    Calls Tryz.prog 249 #[.slice A m c,.pointer (some ⟨bx,0,none⟩)] w fun e w'=>e=.returned (.tuple #[])∧(∃ v',w'.heap[bx]? = some (.cells #[v'] 33 (0,0))∧Own w' (bx+1) v' (l++news))∧Below bx w w':=by
  have HM:=Lib.hid hm
  clear hm
  have c0:w.cell? ⟨bx,0,none⟩=some v:=cellV hbx 0
  have hlt:bx<w.heap.size:=(Array.getElem?_eq_some_iff.1 hbx).1
  go_enter Tryz.func249,Tryz.ntmps249
  go_wp2_with (at_builtin;refine apB rfl (.tmp 3) (.tmp 4) rfl (bx+1) _ _ rfl hown _ _ m c news rfl HM.out hr ?c1 ?c2 ?_)
  case c1=>omega
  case c2=>omega
  intro v1 w1 hown1 hb1 _ _
  obtain⟨A1,k1,rfl,-⟩:=hown1.slice
  have hbx1:=(hb1.block bx (by omega)).trans hbx
  have c1:w1.cell? ⟨bx,0,none⟩=some v:=cellV hbx1 0
  have z1:=frozenV hbx1 0
  go_wp2
  go_end0
  refine⟨rfl,⟨_,?_,hown1.setCell (fun e=>by have:=hown1.blk _ e;simp at this;omega) _⟩,(hb1.mono (Nat.le_succ _)).setCell (Nat.le_refl _) _⟩
  rw[heap_setCell_same w1 bx 0 _ _ _ hbx1,List.length_append];rfl
theorem text_any(A:Option Addr)(n c:Nat)(k:List UInt8)(b:UInt8)(w:World)(hr:Rd w w.heap.size A k)(hn:n=k.length)(hl:k.length≤100000) :
    Calls Tryz.prog 190 #[.slice A n c,.int .u8 b.toNat] w fun e w'=>(∃ u,e=.returned u∧Own w' w.heap.size u (txt k b))∧Below w.heap.size w w':=by
  have HN:=Lib.hid hn
  clear hn
  have g0:=heap_alloc_new w (.cells #[.slice none 0 0] 33)
  have b0:Below w.heap.size w (w.alloc (.cells #[.slice none 0 0] 33)):=(Below.refl _ _).alloc (Nat.le_refl _) _
  have o0:Own (w.alloc (.cells #[.slice none 0 0] 33)) (w.heap.size+1) (.slice none 0 0) []:=Own.nil _ _
  go_enter Tryz.func190,Tryz.ntmps190
  go_wp2
  go_loopw [12] (fun i wr=>∃ (j:Nat) (v:Value),j≤n∧i=.int .i64 j∧wr.heap[w.heap.size]? = some (.cells #[v] 33 (0,0))∧Own wr (w.heap.size+1) v (esc (k.take j))∧Below w.heap.size w wr) (fun i _=>n-(intOf i).toNat)
  case atStart=>exact⟨0,_,Nat.zero_le _,rfl,g0,by simpa[esc] using o0,b0⟩
  case round=>
    clear g0 b0 o0
    obtain⟨j,v,hj,rfl,hbx,hown,hb⟩:=hrel
    have hlen:=esc_len (k.take j)
    have htk:(k.take j).length≤k.length:=by simp[List.length_take];omega
    have hlt:w.heap.size<wr.heap.size:=(Array.getElem?_eq_some_iff.1 hbx).1
    have hz:∀ o:Obj,(wr.alloc o).heap[w.heap.size]? = some (.cells #[v] 33 (0,0)):=fun o=>(Below.heap_alloc wr o _ hlt).trans hbx
    by_cases hjn:j<n
    · have hjk:j<k.length:=by have:=HN.out;omega
      obtain⟨b',o',rfl,hb',hc'⟩:=(hr.below hb).at_ hjk
      have hsn:=esc_snoc k j hjk
      have hmeas:n-(intOf (Value.int .i64 ((j:Int)+1))).toNat<n-(intOf (Value.int .i64 (j:Int))).toNat:=by simp[intOf];omega
      generalize k[j]=x at *
      by_cases hx:x=0
      · subst hx
        have he:esc1 0=[0,255]:=rfl
        have pt:=vput_any (c:=2) (hz (.cells #[.int .u8 0,.int .u8 255] 5)) (hown.alloc _) ((Rd.pair wr 0 255).more (by simp)) (m:=2) rfl (by simp;omega)
        go_wp2_with (go_at_call 249;with_reducible refine pt.mono ?_;rintro e w2 ⟨rfl,⟨v2,hbx2,hown2⟩,hb2⟩)
        refine⟨⟨j+1,v2,by omega,by go_num,hbx2,by rw[hsn,he];exact hown2,(hb.alloc hb.size _).trans hb2⟩,hmeas⟩
      · have he:esc1 x=[x]:=by unfold esc1;rw[if_neg hx]
        have hxn:¬(x.toNat=0):=fun e=>hx (by rw[← UInt8.toNat_inj];exact e)
        have hxi:¬((x.toNat:Int)=0):=by omega
        have pt:=vput_any (c:=1) (hz (.cells #[u8V x] 5)) (hown.alloc _) ((Rd.one wr x).more (by simp)) (m:=1) rfl (by simp;omega)
        go_wp2_with (go_at_call 249;with_reducible refine pt.mono ?_;rintro e w2 ⟨rfl,⟨v2,hbx2,hown2⟩,hb2⟩)
        refine⟨⟨j+1,v2,by omega,by go_num,hbx2,by rw[hsn,he];exact hown2,(hb.alloc hb.size _).trans hb2⟩,hmeas⟩
    · obtain rfl:j=n:=by omega
      have pt:=vput_any (c:=2) (hz (.cells #[.int .u8 0,.int .u8 b.toNat] 5)) (hown.alloc _) ((Rd.pair wr 0 b).more (by simp)) (m:=2) rfl (by simp;omega)
      go_wp2_with (go_at_call 249;with_reducible refine pt.mono ?_;rintro e w2 ⟨rfl,⟨v2,hbx2,hown2⟩,hb2⟩;have c2:=cellV hbx2 0)
      go_ret
      have hfull:k.take j=k:=List.take_of_length_le (by have:=HN.out;omega)
      rw[hfull] at hown2
      exact⟨⟨v2,rfl,hown2.down (Nat.le_succ _)⟩,(hb.alloc hb.size _).trans hb2⟩
theorem bv_shr(x:BitVec 64)(k:Nat):((x.toNat:Int) / 2 ^ k)=((x >>> k).toNat:Int):=by
  rw[BitVec.toNat_ushiftRight,Nat.shiftRight_eq_div_pow];simp
theorem bv_shl(x:BitVec 64)(k:Nat):IntKind.u64.wrap ((x.toNat:Int) * 2 ^ k)=((x <<< k).toNat:Int):=by
  rw[BitVec.toNat_shiftLeft,Nat.shiftLeft_eq,IntKind.wrap_u64];simp
theorem bv_ofInt(x:BitVec 64):BitVec.ofInt 64 (x.toNat:Int)=x:=by rw[BitVec.ofInt_natCast];simp
theorem bv_and(x y:BitVec 64):bits .and .u64 (x.toNat:Int) (y.toNat:Int)=((x &&& y).toNat:Int):=by
  have e:bits .and .u64 (x.toNat:Int) (y.toNat:Int)=IntKind.u64.wrap (((BitVec.ofInt 64 (x.toNat:Int)) &&& (BitVec.ofInt 64 (y.toNat:Int))).toNat:Int):=rfl
  rw[e,bv_ofInt,bv_ofInt,IntKind.wrap_u64]
  have:=(x &&& y).isLt
  omega
theorem bv_or(x y:BitVec 64):bits .or .u64 (x.toNat:Int) (y.toNat:Int)=((x ||| y).toNat:Int):=by
  have e:bits .or .u64 (x.toNat:Int) (y.toNat:Int)=IntKind.u64.wrap (((BitVec.ofInt 64 (x.toNat:Int)) ||| (BitVec.ofInt 64 (y.toNat:Int))).toNat:Int):=rfl
  rw[e,bv_ofInt,bv_ofInt,IntKind.wrap_u64]
  have:=(x ||| y).isLt
  omega
theorem rev_any(x:BitVec 64)(w:World):Calls Tryz.prog 189 #[.int .u64 (x.toNat:Int)] w fun e w'=>e=.returned (.int .u64 ((revB x).toNat:Int))∧w'=w:=by
  go_enter Tryz.func189,Tryz.ntmps189
  go_wp2
  have sr8:∀ y:BitVec 64,((y.toNat:Int) / (256:Int))=((y >>> 8).toNat:Int):=fun y=>by rw[← bv_shr y 8];rfl
  have sl8:∀ y:BitVec 64,IntKind.u64.wrap ((y.toNat:Int) * (256:Int))=((y <<< 8).toNat:Int):=fun y=>by rw[← bv_shl y 8];rfl
  have sl16:∀ y:BitVec 64,IntKind.u64.wrap ((y.toNat:Int) * (65536:Int))=((y <<< 16).toNat:Int):=fun y=>by rw[← bv_shl y 16];rfl
  have sl32:∀ y:BitVec 64,IntKind.u64.wrap ((y.toNat:Int) * (4294967296:Int))=((y <<< 32).toNat:Int):=fun y=>by rw[← bv_shl y 32];rfl
  have sr16:∀ y:BitVec 64,((y.toNat:Int) / (65536:Int))=((y >>> 16).toNat:Int):=fun y=>by rw[← bv_shr y 16];rfl
  have sr32:∀ y:BitVec 64,((y.toNat:Int) / (4294967296:Int))=((y >>> 32).toNat:Int):=fun y=>by rw[← bv_shr y 32];rfl
  have a1:∀ y:BitVec 64,bits .and .u64 (y.toNat:Int) 71777214294589695=((y &&& 71777214294589695#64).toNat:Int):=fun y=>by rw[← bv_and];rfl
  have a2:∀ y:BitVec 64,bits .and .u64 (y.toNat:Int) 281470681808895=((y &&& 281470681808895#64).toNat:Int):=fun y=>by rw[← bv_and];rfl
  simp only[sr8,sl8,sl16,sl32,sr16,sr32,a1,a2,bv_or]
  go_ret
  exact⟨rfl,rfl⟩
theorem first_any(A:Option Addr)(n c:Nat)(k:List UInt8)(w:World)(hr:Rd w w.heap.size A k)(hn:n=k.length)(hl:k.length≤100000) :
    Calls Tryz.prog 94 #[.slice A n c] w fun e w'=>(∃ u,e=.returned u∧Own w' w.heap.size u (txt k 0))∧Below w.heap.size w w':=by
  have T:Calls Tryz.prog 190 #[.slice A n c,.int .u8 0] w fun e w'=>(∃ u,e=.returned u∧Own w' w.heap.size u (txt k 0))∧Below w.heap.size w w':=text_any A n c k 0 w hr hn hl
  clear hn
  go_enter Tryz.func94,Tryz.ntmps94
  go_wp2_with (go_at_call 190;with_reducible refine T.mono ?_;rintro e w1 ⟨⟨u,rfl,ho⟩,hb⟩)
  go_ret
  exact⟨⟨u,rfl,ho⟩,hb⟩
theorem behind_any(A:Option Addr)(n c:Nat)(k:List UInt8)(w:World)(hr:Rd w w.heap.size A k)(hn:n=k.length)(hl:k.length≤100000) :
    Calls Tryz.prog 195 #[.slice A n c] w fun e w'=>(∃ u,e=.returned u∧Own w' w.heap.size u (txt k 1))∧Below w.heap.size w w':=by
  have T:Calls Tryz.prog 190 #[.slice A n c,.int .u8 1] w fun e w'=>(∃ u,e=.returned u∧Own w' w.heap.size u (txt k 1))∧Below w.heap.size w w':=text_any A n c k 1 w hr hn hl
  clear hn
  go_enter Tryz.func195,Tryz.ntmps195
  go_wp2_with (go_at_call 190;with_reducible refine T.mono ?_;rintro e w1 ⟨⟨u,rfl,ho⟩,hb⟩)
  go_ret
  exact⟨⟨u,rfl,ho⟩,hb⟩
def vnum (n:Nat):Nat:=(revB (BitVec.ofNat 64 (18446744073709551615-n))).toNat
def vkey (k:List UInt8)(n:Nat):List UInt8:=txt k 0++le 8 (vnum n)
theorem vnum_le(n:Nat):vnum n≤18446744073709551615:=by have:=(revB (BitVec.ofNat 64 (18446744073709551615-n))).isLt;unfold vnum;omega
theorem revn_any(n:Nat)(hn:n≤18446744073709551615)(w:World):Calls Tryz.prog 189 #[.int .u64 (18446744073709551615-(n:Int))] w fun e w'=>e=.returned (.int .u64 ((vnum n:Nat):Int))∧w'=w:=by
  · have:=rev_any (BitVec.ofNat 64 (18446744073709551615-n)) w
    have e:((BitVec.ofNat 64 (18446744073709551615-n)).toNat:Int)=18446744073709551615-(n:Int):=by rw[BitVec.toNat_ofNat,Nat.mod_eq_of_lt (by omega)];omega
    rw[e] at this
    exact this
theorem join_any(A:Option Addr)(m c n:Nat)(k:List UInt8)(w:World)(hr:Rd w w.heap.size A k)(hm:m=k.length)(h1:1≤k.length)(h2:k.length≤128)(hn:n≤4611686018427387904) :
    Calls Tryz.prog 165 #[.slice A m c,.int .i64 (n:Int)] w fun e w'=>(∃ u,e=.returned (.tuple #[u,.int .i64 0])∧Own w' w.heap.size u (vkey k n))∧Below w.heap.size w w':=by
  have F:=first_any A m c k w hr hm (by omega)
  have HM:=Lib.hid hm
  have h1':1≤m:=by omega
  have h2':m≤128:=by omega
  have el:=esc_len k
  have hlt:(txt k 0).length≤1000:=by unfold txt;simp;omega
  clear hm hr
  go_enter Tryz.func165,Tryz.ntmps165
  go_wp2_with (first
    | (go_at_call 94
       with_reducible refine F.mono ?_
       rintro e w1 ⟨⟨u1,rfl,o1⟩,hb1⟩
       obtain⟨A1,c1,rfl,-,-,r1⟩:=o1.slice
       have R:=revn_any n (by omega) w1
       have Ad:=add64_any A1 c1 (txt k 0).length (vnum n) (txt k 0) w1 r1 rfl (by omega) (vnum_le n))
    | (go_at_call 189;with_reducible refine R.mono ?_;rintro e w1 ⟨rfl,rfl⟩)
    | (go_at_call 147;with_reducible refine Ad.mono ?_;rintro e w2 ⟨u2,rfl,o2,hb2⟩))
  all_goals first | omega | skip
  go_ret2
  exact⟨⟨u2,rfl,o2.down hb1.size⟩,hb1.trans (hb2.mono hb1.size)⟩
set_option maxHeartbeats 4000000
theorem esc1_head(c:UInt8):(esc1 c)[0]? = some c:=by
  unfold esc1;split
  · rename_i h;subst h;rfl
  · rfl
theorem esc1_pos(c:UInt8):(esc1 c).length=if c=0 then 2 else 1:=by unfold esc1;split<;>rfl
theorem esc_at(s:List UInt8)(j:Nat)(h:j<s.length):(esc s)[(esc (s.take j)).length]? = some s[j]:=by
  have e:esc s=esc (s.take j)++(esc1 s[j]++esc (s.drop (j+1))):=by
    have:s=s.take j++s[j]::s.drop (j+1):=by simp
    conv=>lhs;rw[this]
    unfold esc
    rw[List.flatMap_append,List.flatMap_cons]
  rw[e,List.getElem?_append_right (Nat.le_refl _),Nat.sub_self,List.getElem?_append_left (by rw[esc1_pos];split<;>omega),esc1_head]
def epos (k:List UInt8)(j:Nat):Nat:=(esc ((k++[0]).take j)).length
theorem epos_zero(k:List UInt8):epos k 0=0:=by simp[epos,esc]
theorem txt_len(k:List UInt8)(b:UInt8):(txt k b).length=(esc k).length+2:=by simp[txt]
theorem epos_end(k:List UInt8)(b:UInt8):epos k (k.length+1)=(txt k b).length:=by
  unfold epos
  rw[List.take_of_length_le (by simp),txt_len]
  unfold esc
  rw[List.flatMap_append]
  simp[esc1]
theorem epos_at(k:List UInt8)(b:UInt8)(j:Nat)(h:j<(k++[0]).length):(txt k b)[epos k j]? = some (k++[0])[j]∧epos k (j+1)=epos k j+(if (k++[(0:UInt8)])[j]=0 then 2 else 1)∧epos k j+1≤(txt k b).length-1:=by
  have e3:epos k (j+1)=epos k j+(if (k++[(0:UInt8)])[j]=0 then 2 else 1):=by
    unfold epos;rw[esc_snoc _ _ h,List.length_append,esc1_pos]
  refine⟨?_,e3,?_⟩
  · by_cases hj:j<k.length
    · have:=esc_at k j hj
      have hl:(esc (k.take j)).length<(esc k).length:=by
        rcases Nat.lt_or_ge (esc (k.take j)).length (esc k).length with h1|h1
        · exact h1
        · rw[List.getElem?_eq_none h1] at this;cases this
      unfold epos txt
      rw[List.take_append_of_le_length (by omega),List.getElem?_append_left hl,this,List.getElem_append_left hj]
    · have:j=k.length:=by simp at h;omega
      subst this
      unfold epos txt
      rw[List.take_left,List.getElem?_append_right (Nat.le_refl _),Nat.sub_self,List.getElem_append_right (Nat.le_refl _)]
      simp
  · rw[txt_len]
    by_cases hj:j<k.length
    · have:=esc_at k j hj
      have hl:(esc (k.take j)).length<(esc k).length:=by
        rcases Nat.lt_or_ge (esc (k.take j)).length (esc k).length with h1|h1
        · exact h1
        · rw[List.getElem?_eq_none h1] at this;cases this
      unfold epos
      rw[List.take_append_of_le_length (by omega)];omega
    · have:j=k.length:=by simp at h;omega
      subst this
      unfold epos
      rw[List.take_left];omega
theorem leN_le8{v:Nat}(h:v<256 ^ 8):leN (le 8 v)=v:=by
  have hB:∀ v i,(leB v i).toNat=v / 256 ^ i % 256:=fun v i=>by simp[leB,pow256]
  have key:∀ n v,leN (le n v)=v % 256 ^ n:=by
    intro n
    induction n with
    | zero=>intro v;simp[le,leN,Nat.mod_one]
    | succ n ih=>intro v;rw[le_succ,leN_snoc,ih,le_len,hB,Nat.mod_pow_succ,Nat.mul_comm (256 ^ n)]
  rw[key,Nat.mod_eq_of_lt h]
theorem vnum_back(n:Nat)(hn:n≤18446744073709551615)(w:World):Calls Tryz.prog 189 #[.int .u64 ((vnum n:Nat):Int)] w fun e w'=>e=.returned (.int .u64 (18446744073709551615-(n:Int)))∧w'=w:=by
  have:=rev_any (revB (BitVec.ofNat 64 (18446744073709551615-n))) w
  rw[revB_two] at this
  have e:((BitVec.ofNat 64 (18446744073709551615-n)).toNat:Int)=18446744073709551615-(n:Int):=by rw[BitVec.toNat_ofNat,Nat.mod_eq_of_lt (by omega)];omega
  rw[e] at this
  exact this
theorem Rd.take{w:World}{B:Nat}{A:Option Addr}{l:List UInt8}(h:Rd w B A l)(j:Nat):Rd w B A (l.take j):=fun hne=>by
  obtain⟨b,o,e,hb,hc⟩:=h (fun e=>hne (by rw[e];simp))
  exact⟨b,o,e,hb,fun k hk=>by
    have hk2:k<l.length:=by simp at hk;omega
    rw[hc k hk2,List.getElem_take]⟩
theorem part_any(A:Option Addr)(m c n:Nat)(k:List UInt8)(w:World)(hr:Rd w w.heap.size A (vkey k n))(hm:m=(vkey k n).length)(h1:1≤k.length)(h2:k.length≤128)(hn:n≤4611686018427387904) :
    Calls Tryz.prog 90 #[.slice A m c] w fun e w'=>(∃ B d,e=.returned (.tuple #[.slice B k.length d,.int .i64 (n:Int),.bool true])∧Rd w' w'.heap.size B k)∧Below w.heap.size w w':=by
  obtain⟨T,hT⟩:∃ T,(txt k 0).length=T:=⟨_,rfl⟩
  have el:=esc_len k
  have hT1:T≤300:=by rw[← hT,txt_len];omega
  have hmT:m=T+8:=by rw[hm];unfold vkey;rw[List.length_append,le_len,hT]
  have hlv:(vkey k n).length=T+8:=by unfold vkey;rw[List.length_append,le_len,hT]
  have U:=u64_any A c m T (vkey k n) w hr hm (by omega) (by omega)
  have hs:sub (vkey k n) T 8=le 8 (vnum n):=by unfold sub vkey;rw[← hT,List.drop_left];exact List.take_of_length_le (by rw[le_len];exact Nat.le_refl _)
  have hle:leN (le 8 (vnum n))=vnum n:=leN_le8 (by have:=vnum_le n;omega)
  rw[hs,hle] at U
  have HN:=Lib.hid hn
  have HT:=Lib.hid hT
  have HM:=Lib.hid hm
  have H1:=Lib.hid h1
  have H2:=Lib.hid h2
  have f0:wrap64 ((m:Int)-8)=(T:Int):=by rw[IntWalk.wrap64_in _ (by omega)];omega
  have HMT:=Lib.hid hmT
  clear hs hle hlv el hm hT h1 h2 hn hmT
  go_enter Tryz.func90,Tryz.ntmps90
  go_wp2_with (go_at_call 188;(with_reducible refine U.mono ?_);rintro e w1 ⟨rfl,rfl⟩)
  go_loopw [8,9] (fun v i wr=>∃ j:Nat,j≤k.length+1∧i=.int .i64 (epos k j:Nat)∧Own wr w1.heap.size v ((k++[0]).take j)∧Below w1.heap.size w1 wr) (fun _ i _=>T-(intOf i).toNat)
  case atStart=>exact⟨0,Nat.zero_le _,by rw[epos_zero];rfl,by simpa using Own.nil _ _,Below.refl _ _⟩
  case round=>
    obtain⟨j,hj,rfl,hown,hb⟩:=hrel
    have hz:=hb.size
    have hend:=epos_end k 0
    rw[HT.out] at hend
    have h2:=H2.out
    by_cases hlt:j<k.length+1
    · obtain⟨ha,hstep,hpos⟩:=epos_at k 0 j (by simpa using hlt)
      rw[HT.out] at hpos
      obtain⟨x,hx⟩:∃ x,(k++[(0:UInt8)])[j]'(by simpa using hlt)=x:=⟨_,rfl⟩
      rw[hx] at ha hstep
      obtain⟨E,hE⟩:∃ E,epos k j=E:=⟨_,rfl⟩
      rw[hE] at ha hstep hpos ⊢
      have hEv:E<(vkey k n).length:=by rw[← HM.out,HMT.out];omega
      obtain⟨b',o',rfl,hb',hc'⟩:=(hr.below hb).at_ hEv
      have hxe:(vkey k n)[E]=x:=by
        have:(vkey k n)[E]? = some x:=by unfold vkey;rw[List.getElem?_append_left (by rw[HT.out];omega)];exact ha
        rw[List.getElem?_eq_getElem hEv] at this
        injection this
      rw[hxe] at hc'
      have hsn:(k++[(0:UInt8)]).take (j+1)=(k++[0]).take j++[x]:=by rw[List.take_succ_eq_append_getElem (by simpa using hlt),hx]
      have hlj:((k++[(0:UInt8)]).take j).length≤200:=by simp;omega
      have f1:(E:Int)<(T:Int):=by omega
      have f2:(E:Int)<(m:Int):=by have:=HMT.out;omega
      have HH:=Lib.hid hstep
      have HS:=Lib.hid hsn
      have HL:=Lib.hid hlj
      have HP:=Lib.hid hpos
      have HX:=Lib.hid hx
      have HXE:=Lib.hid hxe
      have HEv:=Lib.hid hEv
      clear hstep hsn hlj hpos hx hxe ha hE
      clear hend f0 U h2
      go_wp2_with (at_builtin;refine apB rfl (.tmp 29) (.tmp 34) rfl w1.heap.size _ _ rfl (hown.alloc _) _ _ 1 1 [x] rfl rfl (Rd.one _ _) ?c1 ?c2 ?_)
      case c1=>have:=HL.out;simp only[List.length_cons,List.length_nil];omega
      case c2=>simp;omega
      intro v' w2 hown2 hb2 _ _
      have hown2':=hown2.cast (m:=(k++[0]).take (j+1)) HS.out.symm
      have hbb2:=(hb.alloc hz _).trans hb2
      obtain⟨b2,o2,e2,hb2',hc2⟩:=(hr.below hbb2).at_ HEv.out
      injection e2 with e2
      injection e2 with e2 e3
      subst e2 e3
      rw[HXE.out] at hc2
      have hE3:E≤300:=by have:=HP.out;omega
      clear hown hown2 hb2 hc'
      by_cases hx0:x=0
      · subst hx0
        go_wp2
        refine⟨⟨j+1,by omega,?_,hown2',hbb2⟩,?_⟩
        · rw[HH.out,if_pos rfl];go_num
        · have:=HP.out;simp[intOf];omega
      · have hxn:¬(x.toNat=0):=fun e=>hx0 (by rw[← UInt8.toNat_inj];exact e)
        have hxi:¬((x.toNat:Int)=0):=by omega
        go_wp2
        refine⟨⟨j+1,by omega,?_,hown2',hbb2⟩,?_⟩
        · rw[HH.out,if_neg hx0];go_num
        · have:=HP.out;simp[intOf];omega
    · obtain rfl:j=k.length+1:=by omega
      rw[hend]
      have hfull:(k++[(0:UInt8)]).take (k.length+1)=k++[0]:=List.take_of_length_le (by simp)
      rw[hfull] at hown
      obtain⟨A1,c1,rfl,hc1,-,r1⟩:=hown.sl (n:=k.length+1) (by simp)
      have g6:k.length≤c1:=by omega
      have r1k:Rd wr wr.heap.size A1 k:=by have:=r1.take k.length;rwa[List.take_left] at this
      obtain⟨b1,o1,rfl,hb1,-⟩:=r1.at_ (k:=0) (by simp)
      have VB:=vnum_back n (by have:=HN.out;omega) wr
      have JN:=join_any (some ⟨b1,o1,none⟩) k.length c1 n k wr r1k rfl H1.out H2.out HN.out
      have hrb:=(hr.below hb).more hz
      have h1:=H1.out
      have h2':=H2.out
      have g0:¬((T:Int)<(T:Int)):=by omega
      have g1:¬((k.length:Int)+1=0):=by omega
      have g2:decide ((4611686018427387904:Int)<(n:Int))=false:=by have:=HN.out;simp;omega
      have g3:IntKind.u64.wrap (18446744073709551615-(18446744073709551615-(n:Int)))=(n:Int):=by have:=HN.out;rw[IntKind.wrap_u64];omega
      have g4:IntKind.i64.wrap (n:Int)=(n:Int):=by have:=HN.out;rw[IntKind.wrap_i64];omega
      have g4':wrap64 (n:Int)=(n:Int):=IntWalk.wrap64_in _ (by have:=HN.out;omega)
      have g5:wrap64 ((k.length:Int)+1-1)=(k.length:Int):=by rw[IntWalk.wrap64_in _ (by omega)];omega
      clear hend f0 U hfull hown hj hlt
      go_upto_region 16 with (go_at_call 189;(with_reducible refine VB.mono ?_);rintro e w2 ⟨rfl,rfl⟩)
      go_wp2_with (first
        | (go_at_call 165;(with_reducible refine JN.mono ?_);rintro e w3 ⟨⟨u,rfl,o3⟩,b3⟩;obtain⟨A3,c3,rfl,-,-,r3⟩:=o3.sl HM.out.symm;have OS:=osame_any A3 A c3 c m m (vkey k n) (vkey k n) w3 r3 (hrb.belowS b3) HM.out HM.out;rw[decide_eq_true rfl] at OS)
        | (go_at_call 97;(with_reducible refine OS.mono ?_);rintro e w4 ⟨rfl,rfl⟩))
      go_ret3
      exact⟨⟨_,_,rfl,r1k.belowS b3⟩,hb.trans (b3.mono hz)⟩
end Go.Proofs.YtdbkocfbhpgpkaaGreat
namespace Go.Proofs.YtdbkocfbhpgpkaaGreat
open Go Go.RowKit Go.Shelf
open Go.Ev (PgM PageOk CellsOut rowsOf rowsV rowV rowsOf_len BelowIs)
set_option maxRecDepth 100000
set_option maxHeartbeats 4000000
theorem infoVer:(Tryz.prog.info? 158).map (fun i=>(i.zero,i.size,i.bytes))=some (some (.agg #[.slice none 0 0,.slice none 0 0,.int .i64 0,.slice none 0 0]),4,80):=by kernel_rfl
structure VR where
  aA:Option Addr
  an:Nat
  ac:Nat
  kA:Option Addr
  kn:Nat
  kc:Nat
  by_:Nat
  sA:Option Addr
  sn:Nat
  sc:Nat
def VR.cs(x:VR):List Value:=[.slice x.aA x.an x.ac,.slice x.kA x.kn x.kc,.int .i64 (x.by_:Int),.slice x.sA x.sn x.sc]
def vX (vs:List VR):List Value:=vs.flatMap VR.cs
theorem vX_snoc(vs:List VR)(x:VR):vX (vs++[x])=vX vs++x.cs:=by simp[vX]
theorem vX_at:∀ (vs:List VR) (i:Nat) (h:i<vs.length) (j:Nat),j<4→(vX vs)[i * 4+j]? = (vs[i].cs)[j]?
  | c :: vs, 0, _, j, hj => by
    match j,hj with
    | 0,_=>rfl
    | 1,_=>rfl
    | 2,_=>rfl
    | 3,_=>rfl
  | c :: vs, i + 1, h, j, hj => by
    have:=vX_at vs i (by simpa using h) j hj
    have e:∀ j,(vX (c::vs))[j+4]? = (vX vs)[j]?:=fun j=>rfl
    rw[show(i+1) * 4+j=(i * 4+j)+4 by omega,e]
    exact this
def VB (w:World)(n bx:Nat)(vs:List VR):Prop:=∃ v,w.heap[bx]? = some (.cells #[v] 127 (0,0))∧w.ownsRow n 158 4 v vs.length (vX vs)
theorem VB.below{w w':World}{n bx:Nat}{vs:List VR}(h:VB w n bx vs)(hb:Below w.heap.size w w'):VB w' n bx vs:=by
  obtain⟨v,h1,h2⟩:=h
  exact⟨v,keepB hb h1,ownsRow_same h2 fun g x hg=>hb.block g (hlt hg)⟩
theorem vsee_any{w:World}{n bx:Nat}{vs:List VR}{x:VR}(h:VB w n bx vs)(hn:vs.length≤1000)(hnw:n≤w.heap.size) :
    Calls Tryz.prog 196 #[.agg #[.slice x.aA x.an x.ac,.slice x.kA x.kn x.kc,.int .i64 (x.by_:Int),.slice x.sA x.sn x.sc],.pointer (some ⟨bx,0,none⟩)] w fun e w'=>e=.returned (.bool true)∧VB w' n bx (vs++[x])∧Kp (fun k=>k=bx∨n≤k) w w':=by
  obtain⟨v,hb,hrow⟩:=h
  obtain⟨W1,hW1,g1,b1,s1⟩:=box_alloc w (.cells #[.slice x.aA x.an x.ac,.slice x.kA x.kn x.kc,.int .i64 (x.by_:Int),.slice x.sA x.sn x.sc] 158)
  obtain⟨W2,hW2,g2,b2,s2⟩:=box_alloc W1 (.cells #[.slice x.aA x.an x.ac,.slice x.kA x.kn x.kc,.int .i64 (x.by_:Int),.slice x.sA x.sn x.sc] 158)
  have b12:=b1.trans (b2.mono b1.size)
  have c0:W1.cell? ⟨bx,0,none⟩=some v:=cellD (keepB b1 hb) 0
  have y0:W1.cell? ⟨w.heap.size,0,none⟩=some (.slice x.aA x.an x.ac):=cellD g1 0
  have y1:W1.cell? ⟨w.heap.size,1,none⟩=some (.slice x.kA x.kn x.kc):=cellD g1 1
  have y2:W1.cell? ⟨w.heap.size,2,none⟩=some (.int .i64 (x.by_:Int)):=cellD g1 2
  have y3:W1.cell? ⟨w.heap.size,3,none⟩=some (.slice x.sA x.sn x.sc):=cellD g1 3
  have hrow2:W2.ownsRow n 158 4 v vs.length (vX vs):=ownsRow_same hrow fun g x hg=>b12.block g (hlt hg)
  have hnew:∀ j u,x.cs[j]? = some u→W2.cell? ((⟨W1.heap.size,0,none⟩:Addr).add j)=some u:=fun j u hu=>by
    have:((⟨W1.heap.size,0,none⟩:Addr).add j)=⟨W1.heap.size,j,none⟩:=by unfold Addr.add;split<;>simp_all
    rw[this,cellD g2]
    simpa[VR.cs] using hu
  have hone:∀ u∈x.cs,u.oneCell'=true:=fun u hu=>by simp[VR.cs] at hu;rcases hu with rfl | rfl | rfl | rfl<;>rfl
  have HN:=Lib.hid hn
  have HC:=Lib.hid hnew
  have hb0:n≤W2.heap.size:=Nat.le_trans hnw b12.size
  have HO:=Lib.hid hone
  have HS1:=Lib.hid s1
  have HS2:=Lib.hid s2
  clear hnew hone s1 s2 hn
  go_enter Tryz.func196,Tryz.ntmps196
  go_upto_region 1 with fail
  go_wp2_with (at_builtin;refine apG rfl (.tmp 4) (.tmp 6) 127 158 (.agg #[.slice none 0 0,.slice none 0 0,.int .i64 0,.slice none 0 0]) 4 80 Tryz.underlying127 infoVer rfl (by decide) rfl n v vs.length (vX vs) rfl hrow2 ⟨W1.heap.size,0,none⟩ 1 1 x.cs rfl rfl HC.out HO.out ?c1 ?c2 hb0 ?_)
  case c1=>have:=HN.out;simp[maxLen];omega
  case c2=>have:=HN.out;omega
  intro v5 W5 own5 grow5 at5
  obtain⟨A5,c5,rfl⟩:∃ A c,v5=.slice A (vs.length+1) c:=by
    rcases own5.2 with⟨rfl,h0⟩|⟨g',cap,cur,rfl,-⟩
    · omega
    · exact⟨_,_,rfl⟩
  have hb2:=keepB b12 hb
  have nb:¬v.ownBlock=some bx:=fun e=>by
    rcases hrow2.2 with⟨e1,-⟩|⟨g',cap,cur,e1,-,hg',-⟩
    · rw[e1] at e;cases e
    · rw[e1] at e;injection e with e;dsimp only at e;subst e;exact tag_ne hb2 hg' (by decide) rfl
  have hb5:W5.heap[bx]? = some (.cells #[v] 127 (0,0)):=(grow5.block bx (hlt hb2) (fun e=>nb e.symm)).trans hb2
  have y5:W5.cell? ⟨bx,0,none⟩=some v:=cellD hb5 0
  have z5:W5.frozen? ⟨bx,0,none⟩=false:=frozenD hb5 0
  obtain⟨W6,hW6,g6,k6,s6⟩:=set_name 0 hb5 (.slice A5 (vs.length+1) c5)
  clear y0 y1 y2 y3 c0 s6 at5
  go_wp2
  go_ret
  have kp5:Kp (fun k=>k=bx∨n≤k) w W5:=(Kp.of b12).then ((Kp.grow grow5).weaken fun k e=>.inr (by
    rcases hrow2.2 with⟨e1,-⟩|⟨g',cap,cur,e1,hnb,hg',-⟩
    · rw[e1] at e;cases e
    · rw[e1] at e;injection e with e;dsimp only at e;omega))
  refine⟨rfl,⟨_,g6,?_⟩,kp5.then (k6.weaken fun k e=>.inl e)⟩
  rw[List.length_append,vX_snoc]
  exact ownsRow_same own5 fun g x hg=>k6.block g (hlt hg) fun e=>by rw[e,hb5] at hg;injection hg with hg;injection hg with _ hg;exact absurd hg (by decide)
theorem cell_same{w w':World}{b:Nat}(h:w'.heap[b]? = w.heap[b]?)(k:Nat):w'.cell? ⟨b,k,none⟩=w.cell? ⟨b,k,none⟩:=by
  simp only[World.cell?,h]
theorem RdC.kbx{w w':World}{B bx:Nat}{A:Option Addr}{cv:List CV}{t:TypeId}(h:RdC w B A cv)(hB:B≤w.heap.size)(k:Kp (·=bx) w w')(hb:w.heap[bx]? = some (.cells #[.slice none 0 0] t (0,0))):RdC w' B A cv:=fun hne=>by
  obtain⟨b,o,e,hbB,hc⟩:=h hne
  refine⟨b,o,e,hbB,fun i hi=>?_⟩
  have nb:b≠bx:=fun e=>by
    subst e
    have:=(hc i hi).2
    rw[cellD hb] at this
    simp at this
  rw[cell_same (k.block b (by omega) nb),cell_same (k.block b (by omega) nb)]
  exact hc i hi
theorem row_ver{w:World}{n:Nat}{v:Value}{vs:List VR}(h:w.ownsRow n 158 4 v vs.length (vX vs)):(v=.slice none 0 0∧vs=[])∨∃ g c,v=.slice (some ⟨g,0,none⟩) vs.length c∧g<w.heap.size∧n≤g∧∀ i (hi:i<vs.length) j,j<4→w.cell? ⟨g,i * 4+j,none⟩=(vs[i].cs)[j]?:=by
  rcases h.2 with⟨e,h0⟩|⟨g,cap,cur,e,h1,h2,h3,h4,h5,h6⟩
  · exact .inl ⟨e,List.eq_nil_of_length_eq_zero h0⟩
  · refine .inr ⟨g,cap,e,hlt h2,h1,fun i hi j hj=>?_⟩
    rw[cellD h2]
    have:=vX_at vs i hi j hj
    rw[← h6,List.getElem?_take,if_pos (by omega)] at this
    simpa using this
theorem row_vform{w:World}{n:Nat}{v:Value}{vs:List VR}(h:w.ownsRow n 158 4 v vs.length (vX vs)):∃ A c,v=.slice A vs.length c:=by
  rcases h.2 with⟨rfl,h0⟩|⟨g,cap,cur,rfl,-⟩
  · exact⟨none,0,by rw[h0]⟩
  · exact⟨_,_,rfl⟩
structure ST where
  s:Nat
  B:SPt
  m:Nat
  im:Nat
  db:Nat
  n0:Nat
  who:Nat
structure SD where
  S:SR
  J:JR
  R:PR
  b:Bool
  T:TR
  tm:List (Int×Value)
  ov:List Int
  wm:List (Int×Value)
  pv:Value
  P:PD
def SD.hold(D:SD)(f:FR):SD:={ D with R:={ D.R with held:=some f } }
structure StW(X:ST)(D:SD)(w:World):Prop where
  sb:SB w X.s X.B D.S
  jb:JB w X.B.j X.B.d D.J
  jo:Own w X.n0 D.J.wv D.J.waits
  pb:PB (Zj D.J) w X.B.p X.B.d X.m D.R
  ab:AB w X.B.a X.B.p X.B.j X.im D.b
  dk:Dk (Zj D.J) w X.n0 X.B.d X.db D.pv D.P
  tb:TB w X.B.t D.T
  tw:D.T.who=X.who
  tm:MapI w X.who D.tm
  tr:OR w X.n0 D.T.ov D.ov
  wk:MapI w X.B.wk D.wm
  d1:X.m≠X.im
  d2:X.m≠X.who
  d3:X.m≠X.B.wk
  d4:X.im≠X.who
  d5:X.im≠X.B.wk
  d6:X.who≠X.B.wk
  hi:∀ f,D.R.held=some f→X.n0≤f.fr
structure Free(t:TypeId):Prop where
  t1:t≠125
  t2:t≠232
  t3:t≠5
  t4:t≠318
  t5:t≠364
  t6:t≠251
  t7:t≠147
  t8:t≠33
  t9:t≠203
  t10:t≠235
  t11:t≠3
theorem free_page:Free 116:=⟨by decide,by decide,by decide,by decide,by decide,by decide,by decide,by decide,by decide,by decide,by decide⟩
theorem free_step:Free 260:=⟨by decide,by decide,by decide,by decide,by decide,by decide,by decide,by decide,by decide,by decide,by decide⟩
theorem free_vers:Free 127:=⟨by decide,by decide,by decide,by decide,by decide,by decide,by decide,by decide,by decide,by decide,by decide⟩
theorem free_soft{t:TypeId}(h:Soft t):Free t:=by
  rcases h with rfl|rfl
  · exact free_page
  · exact free_step
section
variable {X:ST}{D:SD}{w w':World}
theorem StW.below(h:StW X D w)(hb:Below w.heap.size w w'):StW X D w':=
  ⟨keepB hb h.sb,keepB hb h.jb,h.jo.belowS hb,h.pb.below hb,h.ab.below hb,h.dk.below hb,h.tb.below hb,h.tw,h.tm.below hb,h.tr.kp (Kp.of (S:=fun _=>False) hb) (fun _ _ h=>h),h.wk.below hb,h.d1,h.d2,h.d3,h.d4,h.d5,h.d6,h.hi⟩
theorem StW.soft{N:Nat}{cs:Array Value}{t:TypeId}(h:StW X D w)(k:Kp (·=N) w w')(hg:w.heap[N]? = some (.cells cs t (0,0)))(ht:Free t):StW X D w':=by
  have ne:∀ {g:Nat} {x:Array Value} {u:TypeId} {z:Nat×Nat},w.heap[g]? = some (.cells x u z)→t≠u→¬g=N:=fun e hu q=>tag_ne e hg (fun q=>hu q.symm) q
  have nm:∀ {g:Nat} {l:List (Int×Value)},MapI w g l→¬g=N:=fun e q=>e.ne hg q
  refine⟨k.keep h.sb (ne h.sb ht.t1),k.keep h.jb (ne h.jb ht.t2),h.jo.kp k (fun g e q=>h.jo.tag hg ht.t3 (q▸e)),h.pb.kp k (ne h.pb.box ht.t4) (nm h.pb.map) (fun f hf=>?_) (fun _ _ h=>h),h.ab.kp k (ne h.ab.box ht.t6) (nm h.ab.map),h.dk.apart k (fun g o e q=>?_),k.keep h.tb (ne h.tb ht.t10),h.tw,h.tm.kp k (nm h.tm),h.tr.kp k (fun g e q=>h.tr.ne hg ht.t11 (q▸e)),h.wk.kp k (nm h.wk),h.d1,h.d2,h.d3,h.d4,h.d5,h.d6,h.hi⟩
  · obtain⟨cur,e,-⟩:=(h.pb.fr f hf).row
    exact⟨ne e ht.t5,fun g e1 e2=>(h.pb.fr f hf).pay.tag hg ht.t3 (e2▸e1)⟩
  · rw[show g=N from e,hg] at q
    injection q with q
    subst q
    exact⟨NoD.cells ht.t7 ht.t8 ht.t9,.inr fun x e=>by injection e with _ e;exact ht.t3 e⟩
theorem StW.pool{S:Nat→Prop}{R':PR}(h:StW X D w)(k:Kp S w w')(hS:∀ g,S g→g<w.heap.size→g=X.B.p∨g=X.m∨∃ cs,w.heap[g]? = some (.cells cs 364 (0,0)))(pb:PB (Zj D.J) w' X.B.p X.B.d X.m R')(hR:∀ f,R'.held=some f→X.n0≤f.fr):StW X { D with R:=R' } w':=by
  have ne:∀ {g:Nat} {x:Array Value} {u:TypeId} {z:Nat×Nat},w.heap[g]? = some (.cells x u z)→u≠318→u≠364→¬S g:=fun {g x u z} e h1 h2 q=>by
    rcases hS g q (hlt e) with q|q|⟨cs,q⟩
    · exact tag_ne e h.pb.box h1 q
    · exact h.pb.map.ne e q.symm
    · exact tag_ne e q h2 rfl
  have nm:∀ {g:Nat} {l:List (Int×Value)},MapI w g l→X.m≠g→¬S g:=fun {g l} e h1 q=>by
    rcases hS g q e.lt with q|q|⟨cs,q⟩
    · exact e.ne h.pb.box q
    · exact h1 q.symm
    · exact e.ne q rfl
  have no:∀ {B:Nat} {v:Value} {l:List UInt8} {g:Nat},Own w B v l→v.ownBlock=some g→¬S g:=fun {B v l g} o e q=>by
    rcases hS g q (o.lt g e) with q|q|⟨cs,q⟩
    · subst q;exact o.tag h.pb.box (by decide) e
    · subst q;exact o.tagm h.pb.map e
    · exact o.tag q (by decide) e
  refine⟨k.keep h.sb (ne h.sb (by decide) (by decide)),k.keep h.jb (ne h.jb (by decide) (by decide)),h.jo.kp k (fun g e=>no h.jo e),pb,h.ab.kp k (ne h.ab.box (by decide) (by decide)) (nm h.ab.map h.d1),h.dk.apart k (fun g o e q=>?_),k.keep h.tb (ne h.tb (by decide) (by decide)),h.tw,h.tm.kp k (nm h.tm h.d2),h.tr.kp k (fun g e q=>?_),h.wk.kp k (nm h.wk h.d3),h.d1,h.d2,h.d3,h.d4,h.d5,h.d6,hR⟩
  · rcases hS g e (hlt q) with e|e|⟨cs,e⟩
    · subst e;rw[h.pb.box] at q;injection q with q;subst q
      exact⟨NoD.cells (by decide) (by decide) (by decide),.inr fun x e=>by injection e with _ e;exact absurd e (by decide)⟩
    · subst e
      obtain⟨E,c,hE,-⟩:=h.pb.map
      rw[hE] at q;injection q with q;subst q
      exact⟨NoD.map _ _,.inr fun x e=>nomatch e⟩
    · rw[e] at q;injection q with q;subst q
      exact⟨NoD.cells (by decide) (by decide) (by decide),.inr fun x e=>by injection e with _ e;exact absurd e (by decide)⟩
  · rcases hS g q (h.tr.lt e).1 with q|q|⟨cs,q⟩
    · subst q;exact h.tr.ne h.pb.box (by decide) e
    · subst q;exact h.tr.nem h.pb.map e
    · exact h.tr.ne q (by decide) e
end
end Go.Proofs.YtdbkocfbhpgpkaaGreat
