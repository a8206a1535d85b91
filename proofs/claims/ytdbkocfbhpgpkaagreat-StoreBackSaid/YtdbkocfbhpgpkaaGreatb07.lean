/-
  stamp.Seal, stamp.Of: what each call does.
-/
import Derived.Test.YtdbkocfbhpgpkaaGreatb05
import Derived.Test.YtdbkocfbhpgpkaaGreatb01
import Derived.Laws.Cover3
set_option linter.unusedVariables false
set_option linter.unusedSimpArgs false
namespace Go.Proofs.YtdbkocfbhpgpkaaGreat
open Go Go.RowKit
set_option maxRecDepth 100000
set_option maxHeartbeats 1600000
def ofS (a b:Int):Nat:=(bits BinOp.or IntKind.u64 (a % 4294967296 * 4294967296) (b % 4294967296)).toNat
theorem ofS_le(a b:Int):ofS a b≤18446744073709551615:=by
  show(IntKind.u64.wrap _).toNat≤_
  rw[IntKind.wrap_u64]
  omega
theorem of_any(a b:Int)(w:World):Calls Tryz.prog 58 #[.int .i64 a,.int .i64 b] w fun e w'=>e=.returned (.int .u64 (ofS a b:Int))∧w'=w:=by
  go_enter Tryz.func58,Tryz.ntmps58
  go_wp2
  go_ret
  refine⟨?_,rfl⟩
  show Ending.returned (Value.int IntKind.u64 (bits BinOp.or IntKind.u64 (a % 4294967296 * 4294967296) (b % 4294967296)))=_
  unfold ofS
  rw[Int.toNat_of_nonneg]
  show 0≤IntKind.u64.wrap _
  rw[IntKind.wrap_u64]
  omega
def sealed(p:List UInt8)(s:Nat):List UInt8:=le 8 s++p++le 8 s
theorem sealed_len{p:List UInt8}{s:Nat}(h:p.length=4080):(sealed p s).length=4096:=by simp[sealed,le_len,h]
theorem le8(s:Nat):le 8 s=[leB s 0,leB s 1,leB s 2,leB s 3,leB s 4,leB s 5,leB s 6,leB s 7]:=rfl
theorem Own.eight{w:World}{base g c s:Nat}(h:Own w base (.slice (some ⟨g,0,none⟩) 8 c) (le 8 s)):w.cell? ⟨g,0,none⟩=some (u8V (leB s 0))∧w.cell? ⟨g,1,none⟩=some (u8V (leB s 1))∧w.cell? ⟨g,2,none⟩=some (u8V (leB s 2))∧w.cell? ⟨g,3,none⟩=some (u8V (leB s 3)) ∧
    w.cell? ⟨g,4,none⟩=some (u8V (leB s 4))∧w.cell? ⟨g,5,none⟩=some (u8V (leB s 5))∧w.cell? ⟨g,6,none⟩=some (u8V (leB s 6))∧w.cell? ⟨g,7,none⟩=some (u8V (leB s 7)):=by
  rcases h.form with⟨e,_⟩|⟨g',cap,e,_,_,_,_,hc⟩
  · cases e
  · cases e
    exact⟨hc 0 (by simp[le_len]),hc 1 (by simp[le_len]),hc 2 (by simp[le_len]),hc 3 (by simp[le_len]),hc 4 (by simp[le_len]),hc 5 (by simp[le_len]),hc 6 (by simp[le_len]),hc 7 (by simp[le_len])⟩
theorem Own.gform{w:World}{base s:Nat}{v:Value}(h:Own w base v (le 8 s)):∃ g c,v=.slice (some ⟨g,0,none⟩) 8 c:=by
  rcases h.form with⟨_,e⟩|⟨g',cap,e,_⟩
  · simp[le8] at e
  · exact⟨g',cap,e⟩
theorem at184(g o n c:Nat)(w:World)(hn:8≤n):(Instr.arrayAt 210 (.slice (some ⟨g,o,none⟩) n c)).run Tryz.prog w=.ok (.pointer (some ⟨g,o,none⟩)) w:=run_arrayAt (P:=Tryz.prog) w 210 5 8 _ n c Tryz.underlying210 hn
theorem cpAt{w:World}{g o n cp L c:Nat}{ad:Addr}{xs l:List UInt8}(hf:w.heap[g]? = some (.cells (xs.map u8V).toArray 5 (0,0)))(hL:L=l.length)(hsrc:∀ j v,(l.map u8V)[j]? = some v→w.cell? (ad.add j)=some v)(hn:l.length≤n)(hfit:o+l.length≤xs.length) :
    ∃ w6,(Builtin.copy_ #[33,33] 3 #[.slice (some ⟨g,o,none⟩) n cp,.slice (some ad) L c]).run Tryz.prog w=.ok (goInt (l.map u8V).length) w6∧w6.heap[g]? = some (.cells ((xs.take o++l++xs.drop (o+l.length)).map u8V).toArray 5 (0,0))∧(∀ k,k≠g→w6.heap[k]? = w.heap[k]?)∧(∀ B,B≤g→Below B w w6):=by
  have hcp:=run_copy_row (P:=Tryz.prog) w 33 33 3 5 g o n cp ad L c _ 5 (l.map u8V) Tryz.underlying33 size5 hf (by rw[List.length_map,← hL];exact(Nat.min_eq_left (by omega)).symm) hsrc (by simp;omega) (by intro v hv;simp at hv;obtain⟨_,_,rfl⟩:=hv;rfl)
  refine⟨_,hcp,(setRow_heap _ _ _ _ _ _ hf).trans ?_,fun k hk=>setRow_other w g k _ hk,fun B hB=>below_setRow (Below.refl _ _) hB _⟩
  congr 3
  simp[List.map_take,List.map_drop]
theorem cells8{w:World}{g:Nat}{s:Nat}{t:TypeId}(h:w.heap[g]? = some (.cells ((le 8 s).map u8V).toArray t (0,0))):∀ (j:Nat) (v:Value),((le 8 s).map u8V)[j]? = some v→w.cell? ((⟨g,0,none⟩:Addr).add j)=some v:=fun j v hj=>by
  have:((⟨g,0,none⟩:Addr).add j)=⟨g,j,none⟩:=by unfold Addr.add;split<;>simp_all
  rw[this,cellD h]
  simpa using hj
def padP (p:List UInt8):List UInt8:=p++List.replicate (4080-p.length) 0
theorem padP_len{p:List UInt8}(h:p.length≤4080):(padP p).length=4080:=by simp[padP];omega
theorem padP_full{p:List UInt8}(h:p.length=4080):padP p=p:=by simp[padP,h]
theorem splice_seal{m p:List UInt8}(hm:m.length=8)(hp:p.length≤4080) :
    let A:=(List.replicate 4096 (0:UInt8)).take 0++m++(List.replicate 4096 (0:UInt8)).drop (0+m.length)
    let B:=A.take 8++p++A.drop (8+p.length)
    B.take 4088++m++B.drop (4088+m.length)=m++padP p++m:=by
  intro A B
  have e0:A=m++List.replicate 4088 0:=by
    show(List.replicate 4096 (0:UInt8)).take 0++m++(List.replicate 4096 (0:UInt8)).drop (0+m.length)=_
    rw[List.take_zero,List.nil_append,hm,List.drop_replicate]
  have e1:A.take 8=m:=by rw[e0,List.take_append_of_le_length (by omega),List.take_of_length_le (by omega)]
  have e3:A.drop (8+p.length)=List.replicate (4088-p.length) 0:=by
    rw[e0,List.drop_append,List.drop_of_length_le (by omega),List.nil_append,List.drop_replicate]
    congr 1;omega
  have e2:B=m++padP p++List.replicate 8 0:=by
    show A.take 8++p++A.drop (8+p.length)=_
    rw[e1,e3,padP,show 4088-p.length=(4080-p.length)+8 by omega,← List.replicate_append_replicate]
    simp only[List.append_assoc]
  have hl:(m++padP p).length=4088:=by rw[List.length_append,padP_len hp,hm]
  rw[e2,List.take_append_of_le_length (by omega),List.take_of_length_le (by omega),List.drop_of_length_le (by simp only[List.length_append,List.length_replicate,padP_len hp,hm];omega),List.append_nil]
theorem seal_any{Z:Nat→Prop}(A:Option Addr)(n c s:Nat)(p:List UInt8)(w:World)(hr:Rd w w.heap.size A p)(hp:n=p.length)(h1:1≤p.length)(h2:p.length≤4080)(hs:s≤18446744073709551615)(hZ:∀ g,Z g→g<w.heap.size) :
    Calls Tryz.prog 57 #[.slice A n c,.int .u64 (s:Int)] w fun e w'=>(∃ g,e=.returned (.tuple #[.slice (some ⟨g,0,none⟩) 4096 4096,.int .i64 0])∧Bk Z w' (.slice (some ⟨g,0,none⟩) 4096 4096) (sealed (padP p) s)∧w.heap.size≤g)∧Below w.heap.size w w':=by
  have HP:=Lib.hid hp
  have H1:=Lib.hid h1
  have H2:=Lib.hid h2
  have hn':n≤4080:=by omega
  clear hp h1 h2
  go_enter Tryz.func57,Tryz.ntmps57
  go_wp2_with (
    (go_at_call 147
     with_reducible refine(add64_any none 0 0 s [] _ (.nil _ _ _) rfl (by simp) hs).mono ?_
     rintro e w1 ⟨u,rfl,ho,hb⟩
     obtain⟨g1,c1,rfl⟩:=Own.gform ho
     obtain⟨k0,k1,k2,k3,k4,k5,k6,k7⟩:=Own.eight ho
     clear ho
     have hat:=at184 g1 0 8 c1 w1 (by omega)
     obtain⟨W2,hW2⟩:∃ W2,(w1.alloc (.cells #[.int .u8 ((leB s 0).toNat:Int),.int .u8 ((leB s 1).toNat:Int),.int .u8 ((leB s 2).toNat:Int),.int .u8 ((leB s 3).toNat:Int),.int .u8 ((leB s 4).toNat:Int),.int .u8 ((leB s 5).toNat:Int),.int .u8 ((leB s 6).toNat:Int),.int .u8 ((leB s 7).toNat:Int)] 210))=W2:=⟨_,rfl⟩
     have m2:W2.heap[w1.heap.size]? = some (.cells ((le 8 s).map u8V).toArray 210 (0,0)):=by rw[← hW2];exact heap_alloc_new w1 _
     have b2:Below w.heap.size w W2:=by rw[← hW2];exact hb.alloc hb.size _
     have z2:=Lib.hid (show W2.heap.size=w1.heap.size+1 by rw[← hW2];simp)
     obtain⟨w3,hmk0,hown3,hb3⟩:=mkn W2 4096 (by omega)
     have hmk:(Instr.makeSlice 33 (.int .i64 4096) (.int .i64 4096)).run Tryz.prog W2=.ok (.slice (some ⟨W2.heap.size,0,none⟩) 4096 4096) w3:=hmk0
     clear hmk0
     have g3:=hown3.full (by simp) (by omega)
     have hz1:w.heap.size≤w1.heap.size:=hb.size
     have m3:=(hb3.block _ (hlt m2)).trans m2
     obtain⟨w4,h4,g4,s4,b4⟩:=cpAt (o:=0) (n:=4096) (cp:=4096) (c:=8) (L:=8) g3 (by simp[le_len]) (cells8 m3) (by simp[le_len]) (by simp[le_len])
     have m4:=(s4 _ (by have:=z2.out;omega)).trans m3
     have hr4:Rd w4 w.heap.size A p:=((hr.below b2).below (hb3.mono (by have:=z2.out;omega))).below (b4 _ (by have:=z2.out;omega))
     obtain⟨ad,rfl,hsrc⟩:=hr4.addr (by rintro rfl;have:=H1.out;simp at this)
     obtain⟨w5,h5,g5,s5,b5⟩:=cpAt (o:=8) (n:=4088) (cp:=4088) (c:=c) (L:=n) g4 HP.out hsrc (by have:=H2.out;omega) (by have:=H2.out;simp[le_len];omega)
     have m5:=(s5 _ (by have:=z2.out;omega)).trans m4
     obtain⟨W5,hW5⟩:∃ W5,w5.drew=W5:=⟨_,rfl⟩
     have eW5:W5.heap=w5.heap:=by rw[← hW5];rfl
     rw[← eW5] at g5 m5
     obtain⟨w6,h6,g6,s6,b6⟩:=cpAt (o:=4088) (n:=8) (cp:=8) (c:=8) (L:=8) g5 (by simp[le_len]) (cells8 m5) (by simp[le_len]) (by have:=H2.out;simp[le_len];omega)
     have b56:Below w5.heap.size w5 W5:=by rw[← hW5];exact⟨rfl,rfl,rfl,Nat.le_refl _,fun _ _=>rfl⟩
     clear hown3 g3 m3 g4 s4 m4 hr4 hsrc m5 g5 eW5 s5 s6))
  refine stillW 3 (by kernel_rfl) (by kernel_rfl) W5 hW5 ?_
  simp only[List.take_succ_cons,List.take_zero,List.drop_succ_cons,List.drop_zero]
  repeat still_step
  refine wpStill_nil ?_
  go_wp2
  go_ret2
  have hz2:w.heap.size≤W2.heap.size:=by have:=z2.out;omega
  refine⟨⟨W2.heap.size,rfl,⟨_,rfl,?_,sealed_len (padP_len H2.out),fun hz=>by have:=hZ _ hz;omega⟩,hz2⟩,?_⟩
  · rw[g6]
    have e:=splice_seal (m:=le 8 s) (p:=p) (le_len _ _) H2.out
    simp only at e
    rw[e]
    rfl
  · exact(((b2.trans (hb3.mono hz2)).trans ((b4 _ hz2).trans (b5 _ hz2))).trans (b56.mono ((b2.trans (hb3.mono hz2)).trans ((b4 _ hz2).trans (b5 _ hz2))).size)).trans (b6 _ hz2)
end Go.Proofs.YtdbkocfbhpgpkaaGreat
