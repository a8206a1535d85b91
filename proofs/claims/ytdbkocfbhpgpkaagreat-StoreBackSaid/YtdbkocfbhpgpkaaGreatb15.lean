/-
  page.Pack: the walk, of a page that is right and fits.
-/
import Derived.Test.YtdbkocfbhpgpkaaGreatb14
import Derived.Test.YtdbkocfbhpgpkaaGreatb03
import Derived.Test.YtdbkocfbhpgpkaaGreatb01
import Derived.BigRegion
import Derived.Lib.AppendZerosOnto
set_option linter.unusedVariables false
set_option linter.unusedSimpArgs false
namespace Go.Proofs.YtdbkocfbhpgpkaaGreat
open Go Go.RowKit Go.Shelf Go.Ev
set_option maxRecDepth 100000
def bl (n N:Nat):List UInt8:=(List.range n).map fun k=>UInt8.ofNat (byte N k)
theorem bl_length(n N:Nat):(bl n N).length=n:=by simp[bl]
theorem bl_le(n v:Nat):le n v=bl n v:=by
  unfold le bl
  refine List.map_congr_left fun k _=>?_
  simp[leB,byte,Nat.shiftRight_eq_div_pow]
structure Rep(n N:Nat)(l:List UInt8):Prop where
  lt:N<2 ^ (8 * n)
  eq:bl n N=l
theorem Rep.num{n v:Nat}(h:v<2 ^ (8 * n)):Rep n v (le n v):=⟨h,(bl_le n v).symm⟩
theorem Rep.nil:Rep 0 0 []:=⟨by decide,rfl⟩
structure NC where
  kn:Nat
  K:Nat
  vn:Nat
  V:Nat
structure NC.Ok(c:NC):Prop where
  k0:1≤c.kn
  k1:c.kn≤320
  v1:c.vn≤576
  k:c.K<2 ^ (8 * c.kn)
  v:c.V<2 ^ (8 * c.vn)
def NC.key(c:NC):List UInt8:=bl c.kn c.K
def NC.val(c:NC):List UInt8:=bl c.vn c.V
def NC.body(c:NC):List UInt8:=le 2 c.kn++le 2 c.vn++c.key++c.val
def NC.sz(c:NC):Nat:=4+c.kn+c.vn
def bodyL(cs:List NC):List UInt8:=cs.flatMap NC.body
def bodyS(cs:List NC):Nat:=(cs.map NC.sz).sum
def placesL:Nat→List NC→List UInt8
  | _,[]=>[]
  | p,c::cs=>le 2 p++placesL (p+c.sz) cs
def frontL(kind next n:Nat):List UInt8:=le 2 kind++le 2 n++le 4 next
def pkL (kind next:Nat)(cs:List NC):List UInt8:=frontL kind next cs.length++placesL (8+2 * cs.length) cs++bodyL cs
def pgL (kind next:Nat)(cs:List NC):List UInt8:=pkL kind next cs++List.replicate (4080-(8+2 * cs.length+bodyS cs)) 0
theorem body_len(c:NC):c.body.length=c.sz:=by simp[NC.body,le_len,NC.key,NC.val,bl_length,NC.sz];omega
theorem bodyL_len:∀ cs:List NC,(bodyL cs).length=bodyS cs
  | []=>rfl
  | c :: cs => by
    have:=bodyL_len cs
    simp only[bodyL,List.flatMap_cons,List.length_append,bodyS,List.map_cons,List.sum_cons] at this ⊢
    rw[body_len,this]
def Rises(cs:List NC):Prop:=∀ i (h:i+1<cs.length),Lib.compareBytes cs[i].key cs[i+1].key=-1
end Go.Proofs.YtdbkocfbhpgpkaaGreat
namespace Go.Proofs.YtdbkocfbhpgpkaaGreat
open Go Go.RowKit Go.Shelf
set_option maxRecDepth 100000
set_option maxHeartbeats 2000000
theorem size_any(A B:Option Addr)(n c m d:Nat)(hn:n≤1000000)(hm:m≤1000000)(w:World) :
    Calls Tryz.prog 152 #[.agg #[.slice A n c,.slice B m d]] w fun e w'=>e=.returned (.int .i64 ((6+n+m:Nat):Int))∧Below w.heap.size w w':=by
  have n1:IntKind.i64.wrap (6+(n:Int))=((6+n:Nat):Int):=by rw[IntKind.wrap_i64];omega
  have n2:IntKind.i64.wrap (((6+n:Nat):Int)+(m:Int))=((6+n+m:Nat):Int):=by rw[IntKind.wrap_i64];omega
  go_enter Tryz.func152,Tryz.ntmps152
  go_wp2
  go_ret
  exact⟨by simp,(Below.refl _ _).alloc (Nat.le_refl _) _⟩
theorem mayBe_any(A B:Option Addr)(n c m d:Nat)(w:World) :
    Calls Tryz.prog 228 #[.slice A n c,.slice B m d] w fun e w'=>e=.returned (.bool (decide (1≤n) && (decide (n≤320) && decide (m≤576))))∧w'=w:=by
  go_enter Tryz.func228,Tryz.ntmps228
  go_wp2
  all_goals go_ret
  all_goals refine⟨?_,rfl⟩
  all_goals (refine congrArg Ending.returned ?_;refine congrArg Value.bool (?_:(_:Bool)=_);rw[Bool.eq_iff_iff];simp only[decide_eq_true_eq,Bool.and_eq_true,Bool.false_eq_true];first | omega | (simp only[false_iff];omega))
structure CV where
  ka:Option Addr
  kn:Nat
  kc:Nat
  va:Option Addr
  vn:Nat
  vc:Nat
def CV.k (x:CV):Value:=.slice x.ka x.kn x.kc
def CV.v (x:CV):Value:=.slice x.va x.vn x.vc
def RdC (w:World)(B:Nat)(A:Option Addr)(cs:List CV):Prop:=
  cs≠[]→∃ b o,A=some ⟨b,o,none⟩∧b<B∧∀ i (h:i<cs.length),w.cell? ⟨b,o+i * 2,none⟩=some cs[i].k∧w.cell? ⟨b,o+i * 2+1,none⟩=some cs[i].v
def sizeN(x:CV):Nat:=6+x.kn+x.vn
def takenN(cs:List CV):Nat:=(cs.map sizeN).sum
theorem taken_succ{cs:List CV}{k:Nat}(h:k<cs.length):takenN (cs.take (k+1))=takenN (cs.take k)+sizeN cs[k]:=by
  unfold takenN
  rw[List.take_succ_eq_append_getElem h,List.map_append,List.sum_append]
  simp
theorem taken_le{cs:List CV}(hs:∀ x∈cs,x.kn≤10000∧x.vn≤10000):∀ k,k≤cs.length→takenN (cs.take k)≤20006 * k
  | 0,_=>by simp[takenN]
  | k + 1, h => by
    rw[taken_succ (by omega)]
    have:=taken_le hs k (by omega)
    have:=hs _ (List.getElem_mem (by omega:k<cs.length))
    unfold sizeN
    omega
theorem taken_any(A:Option Addr)(n c:Nat)(cs:List CV)(w:World)(hr:RdC w w.heap.size A cs)(hn:n=cs.length)(hl:cs.length≤10000)(hs:∀ x∈cs,x.kn≤10000∧x.vn≤10000) :
    Calls Tryz.prog 149 #[.slice A n c] w fun e w'=>e=.returned (.int .i64 ((takenN cs:Nat):Int))∧Below w.heap.size w w':=by
  have HN:=Lib.hid hn
  clear hn
  go_enter Tryz.func149,Tryz.ntmps149
  go_wp2
  go_loopw [3,8] (fun s i wr=>∃ k:Nat,k≤n∧i=.int .i64 k∧s=.int .i64 ((takenN (cs.take k):Nat):Int)∧Below w.heap.size w wr) (fun _ i _=>n-(intOf i).toNat)
  case atStart=>exact⟨0,by omega,rfl,by simp[takenN],Below.refl _ _⟩
  case round=>
    obtain⟨k,hk,rfl,rfl,hb⟩:=hrel
    by_cases hlt:k<n
    · have hkl:k<cs.length:=by have:=HN.out;omega
      obtain⟨b,o,rfl,hbb,hcells⟩:=hr (by intro e;rw[e] at hkl;simp at hkl)
      obtain⟨h1,h2⟩:=hcells k hkl
      have e1:=(hb.cell (p:=⟨b,o+k * 2,none⟩) hbb).trans h1
      have e2:=(hb.cell (p:=⟨b,o+k * 2+1,none⟩) hbb).trans h2
      obtain⟨hs1,hs2⟩:=hs _ (List.getElem_mem hkl)
      unfold CV.k at e1
      unfold CV.v at e2
      go_wp2_with (go_at_call 152;with_reducible refine(size_any _ _ _ _ _ _ (by omega) (by omega) _).mono ?_;rintro e w4 ⟨rfl,hb4⟩)
      have ht:=taken_le hs k (by omega)
      have hsu:=taken_succ hkl
      unfold sizeN at hsu
      refine⟨⟨k+1,by omega,by simp,?_,(hb.alloc hb.size _).trans (hb4.mono (by have:=hb.size;simp;omega))⟩,by simp[intOf];omega⟩
      rw[hsu]
      refine congrArg (Value.int .i64) ?_
      unfold wrap64
      omega
    · obtain rfl:k=n:=by omega
      go_wp2
      go_ret
      refine⟨?_,hb⟩
      rw[HN.out,List.take_length]
      rfl
end Go.Proofs.YtdbkocfbhpgpkaaGreat
namespace Go.Ev
open Go Go.RowKit Go.Proofs Go.Proofs.YtdbkocfbhpgpkaaGreat
set_option maxRecDepth 100000
def PgM (w:World)(B:Nat)(A:Option Addr)(cs:List NC):Prop:=
  ∃ cv:List CV,cv.length=cs.length∧RdC w B A cv∧∀ i (h:i<cv.length) (g:i<cs.length),cv[i].kn=cs[i].kn∧cv[i].vn=cs[i].vn∧Rd w B cv[i].ka cs[i].key∧Rd w B cv[i].va cs[i].val
structure PageOk(kind next:Nat)(cs:List NC):Prop where
  kind:kind=1∨kind=2
  next:next<4096
  ok:∀ c∈cs,c.Ok
  rise:Rises cs
  fits:8+2 * cs.length+bodyS cs≤4080
def rowV (p g:Nat×Nat):Value:=.slice (some ⟨g.1,0,none⟩) p.1 g.2
def rowsV(ps gs:List (Nat×Nat)):List Value:=(ps.zip gs).map fun x=>rowV x.1 x.2
def rowsOf:List NC→List (Nat×Nat)
  | []=>[]
  | ⟨kn,K,vn,V⟩::cs=>(kn,K)::(vn,V)::rowsOf cs
theorem rowsOf_len:∀ cs:List NC,(rowsOf cs).length=cs.length * 2
  | []=>rfl
  | ⟨_,_,_,_⟩::cs=>by simp[rowsOf,rowsOf_len cs];omega
def CellsOut(et n₀:Nat)(W:World)(v:Value)(cs:List NC):Prop:=
  ∃ gs:List (Nat×Nat),gs.length=(rowsOf cs).length∧W.ownsRow n₀ et 2 v cs.length (rowsV (rowsOf cs) gs)∧(v=.slice none 0 0↔cs=[])∧(gs.map (·.1)).Nodup ∧
    ∀ (k:Nat) (p g:Nat×Nat),(rowsOf cs)[k]? = some p→gs[k]? = some g→n₀≤g.1∧Proofs.YtdbkocfbhpgpkaaGreat.Own W n₀ (.slice (some ⟨g.1,0,none⟩) p.1 g.2) (bl p.1 p.2)
end Go.Ev
namespace Go.Proofs.YtdbkocfbhpgpkaaGreat
open Go Go.RowKit Go.Shelf
open Go.Ev (PgM PageOk)
set_option maxRecDepth 100000
set_option maxHeartbeats 4000000
theorem RdC.below{w w':World}{B:Nat}{A:Option Addr}{cv:List CV}(h:RdC w B A cv)(hb:Below B w w'):RdC w' B A cv:=fun hne=>by
  obtain⟨b,o,rfl,hbB,hc⟩:=h hne
  exact⟨b,o,rfl,hbB,fun i hi=>⟨(hb.cell (p:=⟨b,o+i * 2,none⟩) hbB).trans (hc i hi).1,(hb.cell (p:=⟨b,o+i * 2+1,none⟩) hbB).trans (hc i hi).2⟩⟩
theorem _root_.Go.Ev.PgM.below{w w':World}{B:Nat}{A:Option Addr}{cs:List NC}(h:PgM w B A cs)(hb:Below B w w'):PgM w' B A cs:=by
  obtain⟨cv,h1,h2,h3⟩:=h
  exact⟨cv,h1,h2.below hb,fun i h g=>by obtain⟨a1,a2,a3,a4⟩:=h3 i h g;exact⟨a1,a2,a3.below hb,a4.below hb⟩⟩
theorem _root_.Go.Ev.PgM.more{w:World}{B B':Nat}{A:Option Addr}{cs:List NC}(h:PgM w B A cs)(hB:B≤B'):PgM w B' A cs:=by
  obtain⟨cv,h1,h2,h3⟩:=h
  exact⟨cv,h1,fun hne=>by obtain⟨b,o,e,hb,hc⟩:=h2 hne;exact⟨b,o,e,by omega,hc⟩,fun i h g=>by obtain⟨a1,a2,a3,a4⟩:=h3 i h g;exact⟨a1,a2,a3.more hB,a4.more hB⟩⟩
theorem _root_.Go.Ev.PgM.at_{w:World}{B:Nat}{A:Option Addr}{cs:List NC}(h:PgM w B A cs){i:Nat}(hi:i<cs.length):∃ b o ka kc va vc,A=some ⟨b,o,none⟩∧b<B ∧
    w.cell? ⟨b,o+i * 2,none⟩=some (.slice ka cs[i].kn kc)∧w.cell? ⟨b,o+i * 2+1,none⟩=some (.slice va cs[i].vn vc)∧Rd w B ka cs[i].key∧Rd w B va cs[i].val:=by
  obtain⟨cv,h1,h2,h3⟩:=h
  have hcv:cv≠[]:=fun e=>by rw[e] at h1;simp at h1;omega
  obtain⟨b,o,rfl,hb,hc⟩:=h2 hcv
  obtain⟨a1,a2,a3,a4⟩:=h3 i (by omega) hi
  obtain⟨c1,c2⟩:=hc i (by omega)
  refine⟨b,o,cv[i].ka,cv[i].kc,cv[i].va,cv[i].vc,rfl,hb,?_,?_,a3,a4⟩
  · rw[← a1];exact c1
  · rw[← a2];exact c2
theorem mayBe_true{A B:Option Addr}{n c m d:Nat}(h:1≤n∧n≤320∧m≤576)(w:World) :
    Calls Tryz.prog 228 #[.slice A n c,.slice B m d] w fun e w'=>e=.returned (.bool true)∧w'=w:=by
  refine(mayBe_any A B n c m d w).mono ?_
  rintro e w' ⟨rfl,rfl⟩
  refine⟨?_,rfl⟩
  obtain⟨h1,h2,h3⟩:=h
  simp[h1,h2,h3]
theorem cmp_lt{A C:Option Addr}{c d n m:Nat}{l k:List UInt8}{w:World}(hr:Rd w w.heap.size A l)(hm:Rd w w.heap.size C k)(hn:n=l.length)(hn2:m=k.length)(hlt:Lib.compareBytes l k=-1) :
    Calls Tryz.prog 192 #[.slice A n c,.slice C m d] w fun e w'=>e=.returned (.int .i64 (-1))∧w'=w:=by
  refine(cmp_any A C c d n m l k w hr hm hn hn2).mono ?_
  rintro e w' ⟨rfl,rfl⟩
  rw[hlt]
  exact⟨rfl,rfl⟩
def natOf:Value→Nat | .int _ q=>q.toNat | _=>0
theorem pright_any(kind next:Nat)(cs:List NC)(A:Option Addr)(n c:Nat)(w:World)(hok:PageOk kind next cs)(hn:n=cs.length)(hp:PgM w w.heap.size A cs) :
    Calls Tryz.prog 148 #[.agg #[.int .u8 kind,.int .i64 next,.slice A n c]] w fun e w'=>e=.returned (.bool true)∧Below w.heap.size w w':=by
  have hnx:=hok.next
  have hnl:n≤2040:=by have:=hok.fits;omega
  have HOK:=Lib.hid hok
  have HN:=Lib.hid hn
  obtain⟨wb,hwb⟩:∃ wb,wb=w.alloc (.cells #[.int .u8 kind,.int .i64 next,.slice A n c] 116):=⟨_,rfl⟩
  have hb1:Below w.heap.size w wb:=by rw[hwb];exact(Below.refl _ _).alloc (Nat.le_refl _) _
  have hz1:wb.heap.size=w.heap.size+1:=by rw[hwb];simp
  have c2:wb.cell? ⟨w.heap.size,2,none⟩=some (.slice A n c):=by rw[hwb,World.cell?_alloc_at _ _ _ _ rfl];rfl
  have hkind:=hok.kind
  have HP:=Lib.hid (hp.below hb1)
  clear hok hn hp
  have main:∀ kk:Int,(kk=1∨kk=2)→(kind:Int)=kk→Calls Tryz.prog 148 #[.agg #[.int .u8 kk,.int .i64 next,.slice A n c]] w fun e w'=>e=.returned (.bool true)∧Below w.heap.size w w':=by
    intro kk hkk hke
    rw[hke] at hwb
    clear hkind hke
    rcases hkk with rfl|rfl
    all_goals
      go_enter Tryz.func148,Tryz.ntmps148
      go_wp2
      rw[← hwb]
      go_loopw [32] (fun i wr=>∃ k:Nat,k≤n∧i=.int .i64 k∧Below wb.heap.size wb wr) (fun i _=>n-natOf i)
      case atStart=>exact⟨0,by omega,rfl,Below.refl _ _⟩
      case round=>
        obtain⟨k,hk,rfl,hb⟩:=hrel
        have hbz:=hb.size
        by_cases hlt:k<n
        · have hkl:k<cs.length:=by have:=HN.out;omega
          have hpw:=(HP.out.below (hb.mono (by omega)))
          obtain⟨b,o,ka,kc,va,vc,rfl,hbb,e1,e2,hk1,hv1⟩:=hpw.at_ hkl
          have oks:=HOK.out.ok _ (List.getElem_mem hkl)
          have f2:wr.cell? ⟨w.heap.size,2,none⟩=some (.slice (some ⟨b,o,none⟩) n c):=(hb.cell (p:=⟨w.heap.size,2,none⟩) (by show w.heap.size<_;omega)).trans c2
          have HMB:=Lib.hid (show 1≤cs[k].kn∧cs[k].kn≤320∧cs[k].vn≤576 from⟨oks.k0,oks.k1,oks.v1⟩)
          clear oks
          by_cases h0:k=0
          · subst h0
            simp only[Nat.zero_mul,Nat.add_zero] at e1 e2
            go_wp2
            go_quiet (first
              | (go_at_call 228;refine Calls.quiet_of_same (mayBe_true HMB.out _)))
            go_wp2
            go_roundw
            case rel=>exact⟨1,by omega,by go_num,(hb.alloc (by omega) _).trans (belowN _ _ _)⟩
            case measure=>simp[natOf]<;>omega
          · obtain⟨k,rfl⟩:∃ j,k=j+1:=⟨k-1,by omega⟩
            have hkl':k<cs.length:=by omega
            obtain⟨b',o',ka',kc',va',vc',e3,_,e1',e2',hk1',hv1'⟩:=hpw.at_ hkl'
            cases e3
            have hcmp:=Lib.hid (HOK.out.rise k hkl)
            have hb':=hb.alloc (by omega) (.cells #[.slice ka cs[k+1].kn kc,.slice va cs[k+1].vn vc] 219)
            have hr1:=Lib.hid ((hk1.alloc (by omega) (.cells #[.slice ka cs[k+1].kn kc,.slice va cs[k+1].vn vc] 219)).more (B':=(wr.alloc (.cells #[.slice ka cs[k+1].kn kc,.slice va cs[k+1].vn vc] 219)).heap.size) (by simp;omega))
            have hr2:=Lib.hid ((hk1'.alloc (by omega) (.cells #[.slice ka cs[k+1].kn kc,.slice va cs[k+1].vn vc] 219)).more (B':=(wr.alloc (.cells #[.slice ka cs[k+1].kn kc,.slice va cs[k+1].vn vc] 219)).heap.size) (by simp;omega))
            clear hk1 hk1' hv1 hv1' hpw
            have n5:IntKind.i64.wrap ((k:Int)+1-1)=(k:Int):=by rw[IntKind.wrap_i64];omega
            have q1:¬w.heap.size=wr.heap.size:=by omega
            have q2:¬b=wr.heap.size:=by omega
            have q3:w.heap.size<wr.heap.size:=by omega
            have q4:b<wr.heap.size:=by omega
            have g1:=(World.cell?_alloc_lt wr (.cells #[.slice ka cs[k+1].kn kc,.slice va cs[k+1].vn vc] 219) ⟨b,o+k * 2,none⟩ q4).trans e1'
            have g2:=(World.cell?_alloc_lt wr (.cells #[.slice ka cs[k+1].kn kc,.slice va cs[k+1].vn vc] 219) ⟨w.heap.size,2,none⟩ q3).trans f2
            go_wp2
            go_quiet (first
              | (go_at_call 228;refine Calls.quiet_of_same (mayBe_true HMB.out _))
              | (go_at_call 192;refine Calls.quiet_of_same (cmp_lt (l:=cs[k].key) (k:=cs[k+1].key) hr2.out hr1.out (by simp[NC.key,bl_length]) (by simp[NC.key,bl_length]) hcmp.out)))
            go_wp2
            go_roundw
            case rel=>exact⟨k+2,by omega,by go_num,hb'.trans (belowN _ _ _)⟩
            case measure=>simp[natOf]<;>omega
        · obtain rfl:k=n:=by omega
          go_wp2
          go_ret
          exact⟨rfl,hb1.trans (hb.mono (by omega))⟩
  exact main kind (by omega) rfl
theorem ptaken_any(kind next:Nat)(cs:List NC)(A:Option Addr)(n c:Nat)(w:World)(hok:PageOk kind next cs)(hn:n=cs.length)(hp:PgM w w.heap.size A cs) :
    Calls Tryz.prog 149 #[.slice A n c] w fun e w'=>e=.returned (.int .i64 ((2 * n+bodyS cs:Nat):Int))∧Below w.heap.size w w':=by
  obtain⟨cv,h1,h2,h3⟩:=hp
  have hfit:=hok.fits
  have key:∀ (cs:List NC) (cv:List CV),cv.length=cs.length→(∀ i (h:i<cv.length) (g:i<cs.length),cv[i].kn=cs[i].kn∧cv[i].vn=cs[i].vn)→takenN cv=2 * cs.length+bodyS cs:=by
    intro cs
    induction cs with
    | nil=>intro cv h _;have:=List.eq_nil_of_length_eq_zero h;subst this;rfl
    | cons d cs ih =>
      intro cv h g
      cases cv with
      | nil=>simp at h
      | cons x cv =>
        have:=ih cv (by simpa using h) (fun i h1 h2=>g (i+1) (by simpa using h1) (by simpa using h2))
        obtain⟨g1,g2⟩:=g 0 (by simp) (by simp)
        simp only[List.getElem_cons_zero] at g1 g2
        simp only[takenN,bodyS,List.map_cons,List.sum_cons,List.length_cons,sizeN,NC.sz] at this ⊢
        omega
  refine(taken_any A n c cv w h2 (by omega) (by omega) (fun x hx=>?_)).mono ?_
  · obtain⟨i,hi,rfl⟩:=List.getElem_of_mem hx
    obtain⟨a1,a2,_⟩:=h3 i hi (by omega)
    have:=hok.ok _ (List.getElem_mem (by omega:i<cs.length))
    have:=this.k1
    have:=(hok.ok _ (List.getElem_mem (by omega:i<cs.length))).v1
    omega
  · rintro e w' ⟨rfl,hb⟩
    refine⟨?_,hb⟩
    rw[key cs cv h1 (fun i h g=>⟨(h3 i h g).1,(h3 i h g).2.1⟩),hn]
theorem run_zeros_own(w:World)(ty:TypeId)(base:Nat)(v:Value)(l:List UInt8)(k:Nat)(hown:Own w base v l)(hl:0<l.length)(hk:l.length+k≤1000000)(hbase:base≤w.heap.size) :
    ∃ v' w',(Builtin.append_ #[33,3] ty #[v,.int .i64 k]).run Tryz.prog w=.ok v' w'∧Own w' base v' (l++List.replicate k 0)∧Below base w w':=by
  obtain⟨i0,hi,hz0,hz1,hz2⟩:=info_parts Tryz.info5
  have hzc:Builtin.zeroCells (Value.int .u8 0).cells k=((List.replicate k (0:UInt8)).map u8V).toArray:=by
    have:=madeCells_toList' k
    apply Array.ext'
    rw[List.map_replicate]
    simpa[Builtin.zeroCells,madeCells,Value.cells,u8V] using this
  have hlen:=hown.1
  rcases hown.2 with⟨_,h0⟩|⟨g,cap,cur,rfl,hbg,hg,hnc,hcm,hcs,htake⟩
  · omega
  · have hw:IntKind.i64.wrap (k:Int)=k:=by rw[IntKind.wrap_i64];omega
    have hneg:¬((k:Int)<0):=by omega
    have h48:¬(281474976710656<(k:Int)):=by omega
    by_cases hroom:l.length+k≤cap
    · have hst:=run_storeCells_at Tryz.prog g (l.length * 1) 5 ((List.replicate k (0:UInt8)).map u8V) 0 cur w hg (by simp;omega) (by intro v hv;simp at hv;obtain⟨_,rfl⟩:=hv;rfl)
      simp only[Nat.add_zero,Nat.mul_one] at hst
      refine⟨.slice (some ⟨g,0,none⟩) (l.length+k) cap,w.setRow g (cur.toList.take l.length++(List.replicate k (0:UInt8)).map u8V++cur.toList.drop (l.length+((List.replicate k (0:UInt8)).map u8V).length)).toArray,?_,?_,?_⟩
      · have hw0:IntKind.i64.wrap 0=0:=by rw[IntKind.wrap_i64];rfl
        by_cases hk0:k=0
        · subst hk0
          simp only[List.replicate_zero,List.map_nil,List.append_nil,List.length_nil,Nat.add_zero] at hst ⊢
          simp[Builtin.append_,run_underlying Tryz.underlying33,run_underlying Tryz.underlying3,sizeOf,typeInfo,hi,hz1,hz2,asInt,asIntOf,hnc,Addr.add_lit,hw0]
          simpa using congrArg (fun r=>r.andThen fun a w'=>Result.ok (Value.slice (some ⟨g,0,none⟩) l.length cap) w') hst
        · simp[Builtin.append_,run_underlying Tryz.underlying33,run_underlying Tryz.underlying3,sizeOf,typeInfo,zeroValue,hi,hz0,hz1,hz2,asInt,asIntOf,hw,hneg,h48,hk0,hroom,Addr.add_lit,hzc]
          simpa using congrArg (fun r=>r.andThen fun a w'=>Result.ok (Value.slice (some ⟨g,0,none⟩) (l.length+k) cap) w') hst
      · unfold Own
        refine⟨by simp,.inr ⟨g,cap,_,by simp,hbg,setRow_heap w g cur _ 5 _ hg,by simpa using hroom,hcm,?_,?_⟩⟩
        · simp at hcs htake ⊢;omega
        · simp only[Nat.mul_one] at htake ⊢
          rw[htake,List.map_append]
          simp only[List.length_append,List.length_replicate]
          refine List.take_left' ?_
          simp
      · exact⟨rfl,rfl,rfl,by simp,fun j hj=>setRow_other w g j _ (by omega)⟩
    · have hlp:0<k:=by omega
      have hold:(Builtin.firstCells i0.size l.length (.slice (some ⟨g,0,none⟩) l.length cap)).run Tryz.prog w.drew=.ok (l.map u8V).toArray w.drew:=by
        rw[hz1]
        exact run_firstCells_some (P:=Tryz.prog) w.drew 1 l.length _ l.length cap (l.map u8V) (by simp) (hown.cells rfl)
      have hr:=Lib.run_append_grow_zeros (P:=Tryz.prog) w 33 3 ty 5 i0 (.int .u8 0) .i64 .i64 Tryz.underlying33 Tryz.underlying3 hi hz0 (some ⟨g,0,none⟩) l.length cap (l.map u8V) hold k hlp (by rw[hz1];decide) (by omega) (by omega) (by rw[hz2];omega) (by rw[hz2];exact growslice_fits (by omega) (by omega))
      refine⟨_,_,hr,?_,⟨rfl,rfl,rfl,by simp,fun j hj=>Below.heap_alloc w.drew _ j (show j<w.heap.size by omega)⟩⟩
      have hge:=grownCap_ge w (l.length+k) cap 5
      unfold Own
      refine⟨by simp,.inr ⟨w.heap.size,_,_,by simp,hbase,heap_alloc_new w.drew _,by simpa using hge,grownCap_le_maxLen w (l.length+k) cap 5 (by simp[maxLen];omega),?_,?_⟩⟩
      · rw[hzc]
        simp[size_zeroCells,Value.cells]
        omega
      · rw[hzc]
        simp only[Array.toList_append,List.length_append,List.length_replicate,Nat.mul_one,List.map_append]
        refine List.take_left' ?_
        simp
theorem placesL_snoc:∀ (cs:List NC) (p k:Nat) (h:k<cs.length),placesL p (cs.take (k+1))=placesL p (cs.take k)++le 2 (p+bodyS (cs.take k))
  | [],_,_,h=>by simp at h
  | c::cs,p,0,_=>by simp[placesL,bodyS]
  | c :: cs, p, k + 1, h => by
    have:=placesL_snoc cs (p+c.sz) k (by simpa using h)
    simp only[List.take_succ_cons,placesL,this,List.append_assoc]
    congr 3
    simp[bodyS]
    omega
theorem bodyS_snoc(cs:List NC)(k:Nat)(h:k<cs.length):bodyS (cs.take (k+1))=bodyS (cs.take k)+(4+cs[k].kn+cs[k].vn):=by
  unfold bodyS
  rw[List.take_succ_eq_append_getElem h,List.map_append,List.sum_append]
  simp[NC.sz]
theorem bodyL_snoc(cs:List NC)(k:Nat)(h:k<cs.length):bodyL (cs.take (k+1))=bodyL (cs.take k)++(le 2 cs[k].kn++le 2 cs[k].vn++cs[k].key++cs[k].val):=by
  unfold bodyL
  rw[List.take_succ_eq_append_getElem h,List.flatMap_append]
  simp[NC.body]
theorem placesL_len:∀ (cs:List NC) (p:Nat),(placesL p cs).length=2 * cs.length
  | [],_=>rfl
  | c::cs,p=>by simp[placesL,placesL_len cs,le_len];omega
theorem bodyS_le(cs:List NC)(k:Nat):bodyS (cs.take k)≤bodyS cs:=by
  have h:bodyS cs=bodyS (cs.take k)+bodyS (cs.drop k):=by
    unfold bodyS
    rw[← List.sum_append,← List.map_append,List.take_append_drop]
  omega
theorem frontL_len(kind next n:Nat):(frontL kind next n).length=8:=by simp[frontL,le_len]
theorem le2_small(x:UInt8):le 2 x.toNat=[x,0]:=by
  have:=x.toNat_lt
  have h0:leB x.toNat 0=x:=by simp[leB]
  have h1:leB x.toNat 1=0:=by
    unfold leB
    rw[show x.toNat / 2 ^ (8 * 1)=0 from Nat.div_eq_of_lt (by omega)]
    rfl
  simp[le,List.range_succ,h0,h1]
theorem Rd.two(w:World)(x:UInt8):Rd (w.alloc (.cells #[.int .u8 (x.toNat:Int),.int .u8 0] 5)) (w.heap.size+1) (some ⟨w.heap.size,0,none⟩) [x,0]:=fun _=>
  ⟨_,0,rfl,by omega,fun k hk=>by
    have hk2:k<2:=hk
    have:k=0∨k=1:=by omega
    rcases this with rfl|rfl<;>(rw[World.cell?_alloc_at _ _ _ _ rfl];rfl)⟩
structure PkS(wb:World)(base g:Nat)(cl:NC)(ka:Option Addr)(kc:Nat)(va:Option Addr)(vc:Nat)(l:List UInt8)(v:Value)(W:World):Prop where
  own:Own W base v l
  bl:Below base wb W
  sz:base≤W.heap.size
  q0:W.cell? ⟨g,0,none⟩=some (.slice ka cl.kn kc)
  q1:W.cell? ⟨g,1,none⟩=some (.slice va cl.vn vc)
  q:W.cell? ⟨g,0,none⟩=some (.slice ka cl.kn kc)
  lt:g<W.heap.size
  ne:v.ownBlock≠some g
  rk:Rd W base ka cl.key
  rv:Rd W base va cl.val
theorem PkS.call{wb:World}{base g:Nat}{cl:NC}{ka va:Option Addr}{kc vc:Nat}{l:List UInt8}{v:Value}{W W':World}(s:PkS wb base g cl ka kc va vc l v W)(hb:Below W.heap.size W W'):PkS wb base g cl ka kc va vc l v W':=
  ⟨s.own.belowS hb,s.bl.trans (hb.mono s.sz),Nat.le_trans s.sz hb.size,(hb.cell (p:=⟨g,0,none⟩) s.lt).trans s.q0,(hb.cell (p:=⟨g,1,none⟩) s.lt).trans s.q1,(hb.cell (p:=⟨g,0,none⟩) s.lt).trans s.q0,Nat.lt_of_lt_of_le s.lt hb.size,s.ne,s.rk.below (hb.mono s.sz),s.rv.below (hb.mono s.sz)⟩
theorem PkS.app{wb:World}{base g:Nat}{cl:NC}{ka va:Option Addr}{kc vc:Nat}{l l':List UInt8}{v v':Value}{W W':World}(s:PkS wb base g cl ka kc va vc l v W)(h1:Own W' base v' l')(h2:Below base W W')
    (h3:v'.ownBlock=v.ownBlock∨v'.ownBlock=some W.heap.size) (h4:W.grownBy W' v.ownBlock):PkS wb base g cl ka kc va vc l' v' W':=by
  have hg:W'.heap[g]? = W.heap[g]?:=h4.block g s.lt (fun e=>s.ne e.symm)
  have hc:∀ o,W'.cell? ⟨g,o,none⟩=W.cell? ⟨g,o,none⟩:=fun o=>by simp only[World.cell?,hg]
  refine⟨h1,s.bl.trans h2,Nat.le_trans s.sz h2.size,(hc 0).trans s.q0,(hc 1).trans s.q1,(hc 0).trans s.q0,Nat.lt_of_lt_of_le s.lt h2.size,?_,s.rk.below h2,s.rv.below h2⟩
  rcases h3 with e|e
  · rw[e];exact s.ne
  · rw[e];intro h;have:=s.lt;injection h with h;omega
theorem PkS.start{wb:World}{base:Nat}{cl:NC}{ka va:Option Addr}{kc vc:Nat}{l:List UInt8}{v:Value}{W:World}(own:Own W base v l)(bl:Below base wb W)(sz:base≤W.heap.size)(rk:Rd W base ka cl.key)(rv:Rd W base va cl.val) :
    PkS wb base W.heap.size cl ka kc va vc l v (W.alloc (.cells #[.slice ka cl.kn kc,.slice va cl.vn vc] 219)):=
  ⟨own.alloc _,bl.alloc sz _,by simp;omega,by rw[World.cell?_alloc_at _ _ _ _ rfl];rfl,by rw[World.cell?_alloc_at _ _ _ _ rfl];rfl,by rw[World.cell?_alloc_at _ _ _ _ rfl];rfl,by simp,fun e=>Nat.lt_irrefl _ (own.lt _ e),rk.alloc sz _,rv.alloc sz _⟩
theorem pack_call(kind next:Nat)(cs:List NC)(A:Option Addr)(n c:Nat)(w:World)(hok:PageOk kind next cs)(hn:n=cs.length)(hp:PgM w w.heap.size A cs) :
    Calls Tryz.prog 59 #[.agg #[.int .u8 kind,.int .i64 next,.slice A n c]] w fun e w'=>(∃ v,e=.returned (.tuple #[v,.int .i64 0])∧Own w' w.heap.size v (pgL kind next cs))∧Below w.heap.size w w':=by
  have hnx:=hok.next
  have hfit:=hok.fits
  have hnl:n≤2040:=by omega
  have hS:2 * n+bodyS cs≤4072:=by omega
  obtain⟨x,rfl⟩:∃ x:UInt8,kind=x.toNat:=⟨UInt8.ofNat kind,by have:=hok.kind;simp;omega⟩
  have HOK:=Lib.hid hok
  have HN:=Lib.hid hn
  obtain⟨wb,hwb⟩:∃ wb,wb=w.alloc (.cells #[.int .u8 x.toNat,.int .i64 next,.slice A n c] 116):=⟨_,rfl⟩
  have hb1:Below w.heap.size w wb:=by rw[hwb];exact(Below.refl _ _).alloc (Nat.le_refl _) _
  have hz0:wb.heap.size=w.heap.size+1:=by rw[hwb];simp
  have hz1:w.heap.size<wb.heap.size:=by omega
  have HZ:=Lib.hid hz0
  clear hz0
  have c0:wb.cell? ⟨w.heap.size,0,none⟩=some (.int .u8 x.toNat):=by rw[hwb,World.cell?_alloc_at _ _ _ _ rfl];rfl
  have c1:wb.cell? ⟨w.heap.size,1,none⟩=some (.int .i64 next):=by rw[hwb,World.cell?_alloc_at _ _ _ _ rfl];rfl
  have c2:wb.cell? ⟨w.heap.size,2,none⟩=some (.slice A n c):=by rw[hwb,World.cell?_alloc_at _ _ _ _ rfl];rfl
  have HP:=Lib.hid (hp.below hb1)
  have HP1:=Lib.hid ((hp.below hb1).more (B':=wb.heap.size) (by omega))
  clear hok hn hp hfit
  go_enter Tryz.func59,Tryz.ntmps59
  go_upto_region 5 with (first
    | (go_at_call 148;rw[← hwb];with_reducible refine(pright_any x.toNat next cs A n c _ HOK.out HN.out HP1.out).mono ?_;rintro e w2 ⟨rfl,hb2⟩;have d2:=(hb2.cell (p:=⟨w.heap.size,2,none⟩) (by show w.heap.size<_;omega)).trans c2)
    | (go_at_call 149;with_reducible refine(ptaken_any x.toNat next cs A n c _ HOK.out HN.out ((HP1.out.below hb2).more hb2.size)).mono ?_;rintro e w3 ⟨rfl,hb3⟩))
  have hb4:=hb2.trans (hb3.mono hb2.size)
  have hz4:=hb4.size
  clear hb2 hb3 d2
  obtain⟨w4,hmk0,own0,hb5⟩:=mk0 w3 4080 (by omega)
  have hmk:(Instr.makeSlice 33 (.int .i64 0) (.int .i64 4080)).run Tryz.prog w3=.ok (.slice (some ⟨w3.heap.size,0,none⟩) 0 4080) w4:=hmk0
  clear hmk0
  have hb6:=hb4.trans (hb5.mono hb4.size)
  have hz6:=hb6.size
  have own1:=own0.down (B':=wb.heap.size) (by omega)
  have d0:=(hb6.cell (p:=⟨w.heap.size,0,none⟩) (by show w.heap.size<_;omega)).trans c0
  have hx8:=x.toNat_lt
  clear own0 hb4 hb5
  have hn16:IntKind.u16.wrap (n:Int)=n:=by rw[IntKind.wrap_u16];omega
  have hn32:IntKind.u32.wrap (next:Int)=next:=by rw[IntKind.wrap_u32];omega
  have hfl:∀ n,le 2 x.toNat++le 2 n++le 4 next=frontL x.toNat next n:=fun _=>rfl
  go_upto_region 10 with (first
    | (at_builtin;refine apB rfl (.tmp 18) (.tmp 21) rfl wb.heap.size _ _ rfl (own1.alloc _) _ _ 2 2 [x,0] rfl rfl (Rd.two _ x) (by simp) (by simp;omega) ?_;intro v5 w5 own5 hb7 _ _;have hb8:=(hb6.alloc (by omega) _).trans hb7;have hz8:=hb8.size;have d1:=(hb8.cell (p:=⟨w.heap.size,1,none⟩) (by show w.heap.size<_;omega)).trans c1;have d2:=(hb8.cell (p:=⟨w.heap.size,2,none⟩) (by show w.heap.size<_;omega)).trans c2;have own6:=own5.cast (m:=le 2 x.toNat) (by rw[le2_small];rfl);clear own5 own1 hb6 hb7 d0 hmk hz6 hz4)
    | (go_at_call 150;with_reducible refine(add16_any none 0 0 n [] _ (Rd.nil _ _ _) rfl (by simp) (by omega)).mono ?_;rintro e w6 ⟨u6,rfl,ownu,hb9⟩;obtain⟨A6,k6,rfl,_,_,r6⟩:=ownu.sl (n:=2) (by simp[le_len]);have own7:=own6.belowS hb9;have hb10:=hb8.trans (hb9.mono hz8);have hz10:=hb10.size;clear ownu own6 hb8 hb9 d1 d2 hz8)
    | (at_builtin;refine apB rfl (.tmp 23) (.tmp 28) rfl wb.heap.size _ _ rfl own7 _ _ 2 k6 _ rfl (by simp[le_len]) r6 (by simp[le_len]) (by omega) ?_;intro v7 w7 own8 hb11 _ _;have hb12:=hb10.trans hb11;have hz12:=hb12.size;have d3:=(hb12.cell (p:=⟨w.heap.size,1,none⟩) (by show w.heap.size<_;omega)).trans c1;clear own7 hb10 hb11 r6 hz10)
    | (go_at_call 151;with_reducible refine(add32_any none 0 0 next [] _ (Rd.nil _ _ _) rfl (by simp) (by omega)).mono ?_;rintro e w8 ⟨u8,rfl,ownu,hb13⟩;obtain⟨A8,k8,rfl,_,_,r8⟩:=ownu.sl (n:=4) (by simp[le_len]);have own9:=own8.belowS hb13;have hb14:=hb12.trans (hb13.mono hz12);have hz14:=hb14.size;clear ownu own8 hb12 hb13 d3 hz12)
    | (at_builtin;refine apB rfl (.tmp 30) (.tmp 34) rfl wb.heap.size _ _ rfl own9 _ _ 4 k8 _ rfl (by simp[le_len]) r8 (by simp[le_len]) (by omega) ?_;intro v9 w9 own10 hb15 _ _;have hb16:=hb14.trans hb15;have hz16:=hb16.size;have own11:=own10.cast (m:=frontL x.toNat next n) (by simp[frontL]);have d4:=(hb16.cell (p:=⟨w.heap.size,2,none⟩) (by show w.heap.size<_;omega)).trans c2;clear own9 own10 hb14 hb15 r8 hz14))
  clear hwb c0 c1
  go_wp2
  go_loopw [4,5,44] (fun v a i wr=>∃ k:Nat,k≤n∧i=.int .i64 k∧a=.int .i64 ((8+2 * n+bodyS (cs.take k):Nat):Int)∧Own wr wb.heap.size v (frontL x.toNat next n++placesL (8+2 * n) (cs.take k))∧Below wb.heap.size wb wr) (fun _ _ i _=>n-natOf i)
  case atStart=>exact⟨0,by omega,rfl,by simp[bodyS],by simpa[placesL] using own11,hb16⟩
  case round=>
    obtain⟨k,hk,rfl,rfl,own,hb⟩:=hrel
    clear own11 hb16 hz16 d4
    have hz:=hb.size
    by_cases hlt:k<n
    · have hkl:k<cs.length:=by have:=HN.out;omega
      have hpw:=(HP.out.below (hb.mono (by omega)))
      obtain⟨b,o,ka,kc,va,vc,rfl,hbb,e1,e2,rk,rv⟩:=hpw.at_ hkl
      have oks:=HOK.out.ok _ (List.getElem_mem hkl)
      have hlk:=oks.k1
      have hlv:=oks.v1
      have hle:=bodyS_le cs k
      have hsn:=bodyS_snoc cs k hkl
      have hps:=Lib.hid (placesL_snoc cs (8+2 * n) k hkl)
      have hpl:=placesL_len (cs.take k) (8+2 * n)
      obtain⟨p,hp⟩:∃ p,p=8+2 * n+bodyS (cs.take k):=⟨_,rfl⟩
      obtain⟨cl,hcl⟩:∃ cl,cl=cs[k]:=⟨_,rfl⟩
      rw[← hcl] at e1 e2 hlk hlv hsn rk rv
      rw[← hp] at hps
      have hp16:IntKind.u16.wrap (p:Int)=p:=by rw[IntKind.wrap_u16];omega
      have hlen:(frontL x.toNat next n++placesL (8+2 * n) (cs.take k)).length≤10000:=by simp[frontL_len,hpl];omega
      have HSN:=Lib.hid (show 8+2 * n+bodyS (cs.take (k+1))=p+(4+cl.kn+cl.vn) by omega)
      have hp4:p≤4080:=by omega
      have s0:=PkS.start (kc:=kc) (vc:=vc) own hb hz (rk.more (B':=wb.heap.size) (by omega)) (rv.more (B':=wb.heap.size) (by omega))
      clear oks hpw hsn hle hpl own hb rk rv hcl
      rw[← hp]
      clear hp
      go_wp2_with (first
        | (go_at_call 150;with_reducible refine(add16_any none 0 0 p [] _ (Rd.nil _ _ _) rfl (by simp) (by omega)).mono ?_;rintro e w6 ⟨u6,rfl,ownu,hb9⟩;obtain⟨A6,k6,rfl,_,_,r6⟩:=ownu.sl (n:=2) (by simp[le_len]);have s1:=s0.call hb9;have hs1:=s1.sz;clear ownu hb9 s0)
        | (at_builtin;refine apB rfl (.tmp 48) (.tmp 51) rfl wb.heap.size _ _ rfl s1.own _ _ 2 k6 _ rfl (by simp[le_len]) r6 (by simp only[List.length_append,le_len,List.length_nil] at hlen ⊢;omega) hs1 ?_;intro v7 w7 own8 hb11 g1 g2;have s2:=s1.app own8 hb11 g1 g2;have q0:=s2.q0;have q1:=s2.q1;clear s1 own8 hb11 g1 g2)
        | (go_at_call 152;with_reducible refine(size_any _ _ cl.kn _ cl.vn _ (by omega) (by omega) _).mono ?_;rintro e w8 ⟨rfl,hb13⟩;have s3:=s2.call hb13))
      refine⟨⟨k+1,by omega,by go_num,?_,s3.own.cast (by rw[hps.out];simp),s3.bl⟩,by simp[natOf];omega⟩
      rw[HSN.out]
      refine congrArg (Value.int .i64) ?_
      omega
    · obtain rfl:k=n:=by omega
      rw[show cs.take k=cs from by rw[HN.out];exact List.take_length] at own ⊢
      have hpl:=placesL_len cs (8+2 * k)
      have d5:=(hb.cell (p:=⟨w.heap.size,2,none⟩) (by show w.heap.size<_;omega)).trans c2
      obtain⟨p5,hp5⟩:∃ p,p=8+2 * k+bodyS cs:=⟨_,rfl⟩
      rw[← hp5]
      clear hp5
      go_wp2
      go_loopw [4,62] (fun v i wr=>∃ j:Nat,j≤k∧i=.int .i64 j∧Own wr wb.heap.size v (frontL x.toNat next k++placesL (8+2 * k) cs++bodyL (cs.take j))∧Below wb.heap.size wb wr) (fun _ i _=>k-natOf i)
      case atStart=>exact⟨0,by omega,rfl,by simpa[bodyL] using own,hb⟩
      case round=>
        obtain⟨j,hj,rfl,own2,hb2⟩:=hrel
        clear own hb hz d5
        have hz:=hb2.size
        have hbl:=bodyL_len (cs.take j)
        have hle:=bodyS_le cs j
        by_cases hlt:j<k
        · have hkl:j<cs.length:=by have:=HN.out;omega
          have hpw:=(HP.out.below (hb2.mono (by omega)))
          obtain⟨b,o,ka,kc,va,vc,rfl,hbb,e1,e2,rk,rv⟩:=hpw.at_ hkl
          have oks:=HOK.out.ok _ (List.getElem_mem hkl)
          have hlk:=oks.k1
          have hlv:=oks.v1
          have hps:=Lib.hid (bodyL_snoc cs j hkl)
          have hlen0:(frontL x.toNat next k++placesL (8+2 * k) cs++bodyL (cs.take j)).length≤10000:=by have:=HN.out;simp only[List.length_append,frontL_len,hpl,hbl];omega
          obtain⟨cl,hcl⟩:∃ cl,cl=cs[j]:=⟨_,rfl⟩
          rw[← hcl] at e1 e2 hlk hlv rk rv hps
          obtain⟨l0,hl0⟩:∃ l0,l0=frontL x.toNat next k++placesL (8+2 * k) cs++bodyL (cs.take j):=⟨_,rfl⟩
          rw[← hl0] at own2 hlen0
          have HL0:=Lib.hid hl0
          have s0:=PkS.start (kc:=kc) (vc:=vc) own2 hb2 hz (rk.more (B':=wb.heap.size) (by omega)) (rv.more (B':=wb.heap.size) (by omega))
          have hk16:IntKind.u16.wrap (cl.kn:Int)=cl.kn:=by rw[IntKind.wrap_u16];omega
          have hv16:IntKind.u16.wrap (cl.vn:Int)=cl.vn:=by rw[IntKind.wrap_u16];omega
          have q0:=s0.q0
          have q1:=s0.q1
          clear oks hpw hle hpl hbl own2 hb2 rk rv hcl hl0
          go_wp2_with (first
            | (go_at_call 150;with_reducible refine(add16_any none 0 0 cl.kn [] _ (Rd.nil _ _ _) rfl (by simp) (by omega)).mono ?_;rintro e w6 ⟨u6,rfl,ownu,hb9⟩;obtain⟨A6,k6,rfl,_,_,r6⟩:=ownu.sl (n:=2) (by simp[le_len]);have s1:=s0.call hb9;have hs1:=s1.sz;clear ownu hb9 s0 q0 q1)
            | (at_builtin;refine apB rfl (.tmp 66) (.tmp 71) rfl wb.heap.size _ _ rfl s1.own _ _ 2 k6 _ rfl (by simp[le_len]) r6 (by simp only[List.length_append,le_len,List.length_nil];omega) hs1 ?_;intro v7 w7 own8 hb11 g1 g2;have s2:=s1.app own8 hb11 g1 g2;have q0:=s2.q0;have q1:=s2.q1;clear s1 own8 hb11 g1 g2)
            | (go_at_call 150;with_reducible refine(add16_any none 0 0 cl.vn [] _ (Rd.nil _ _ _) rfl (by simp) (by omega)).mono ?_;rintro e w8 ⟨u8,rfl,ownu,hb9⟩;obtain⟨A8,k8,rfl,_,_,r8⟩:=ownu.sl (n:=2) (by simp[le_len]);have s3:=s2.call hb9;have hs3:=s3.sz;clear ownu hb9 s2 q0 q1)
            | (at_builtin;refine apB rfl (.tmp 73) (.tmp 78) rfl wb.heap.size _ _ rfl s3.own _ _ 2 k8 _ rfl (by simp[le_len]) r8 (by simp only[List.length_append,le_len,List.length_nil];omega) hs3 ?_;intro v9 w9 own8 hb11 g1 g2;have s4:=s3.app own8 hb11 g1 g2;have q0:=s4.q0;have q1:=s4.q1;have hs4:=s4.sz;clear s3 own8 hb11 g1 g2)
            | (at_builtin;refine apB rfl (.tmp 80) (.tmp 82) rfl wb.heap.size _ _ rfl s4.own _ _ cl.kn kc cl.key rfl (by simp[NC.key,bl_length]) s4.rk (by simp only[List.length_append,le_len,List.length_nil,NC.key,bl_length];omega) hs4 ?_;intro v10 w10 own8 hb11 g1 g2;have s5:=s4.app own8 hb11 g1 g2;have q0:=s5.q0;have q1:=s5.q1;have hs5:=s5.sz;clear s4 own8 hb11 g1 g2)
            | (at_builtin;refine apB rfl (.tmp 84) (.tmp 86) rfl wb.heap.size _ _ rfl s5.own _ _ cl.vn vc cl.val rfl (by simp[NC.val,bl_length]) s5.rv (by simp only[List.length_append,le_len,List.length_nil,NC.key,NC.val,bl_length];omega) hs5 ?_;intro v11 w11 own8 hb11 g1 g2;have s6:=s5.app own8 hb11 g1 g2;clear s5 own8 hb11 g1 g2))
          go_roundw
          case rel=>exact⟨j+1,by omega,by go_num,s6.own.cast (by rw[hps.out,HL0.out];simp),s6.bl⟩
          case measure=>simp[natOf]<;>omega
        · obtain rfl:j=k:=by omega
          rw[show cs.take j=cs from by rw[HN.out];exact List.take_length] at own2 hbl
          have hlen:(frontL x.toNat next j++placesL (8+2 * j) cs++bodyL cs).length=8+2 * j+bodyS cs:=by simp only[List.length_append,frontL_len,hpl,hbl];have:=HN.out;omega
          obtain⟨v',w',hr,own3,hb3⟩:=run_zeros_own wr 33 wb.heap.size _ _ (4080-(8+2 * j+bodyS cs)) own2 (by rw[hlen];omega) (by rw[hlen];omega) hz
          obtain⟨A2,c2',rfl,_,_,_⟩:=own2.sl hlen
          have hbb:=hb2.trans hb3
          have own4:=own3.cast (m:=pgL x.toNat next cs) (by unfold pgL pkL;rw[← HN.out])
          obtain⟨L,hL⟩:∃ L,L=8+2 * j+bodyS cs:=⟨_,rfl⟩
          rw[← hL] at hr
          have hL2:L≤4080:=by omega
          rw[show((4080-L:Nat):Int)=4080-(L:Int) by omega] at hr
          have hwr:IntKind.i64.wrap (4080-(L:Int))=4080-(L:Int):=by rw[IntKind.wrap_i64];omega
          rw[← hL]
          clear own2 own3 hlen hbl hpl hL hb2 hb3
          go_wp2_with (at_builtin;refine Lib.wpList_append_run _ rfl (.tmp 89) (.tmp 92) 33 3 rfl _ _ rfl rfl v' w' hr ?_)
          go_ret2
          exact⟨⟨_,rfl,own4.down (by omega)⟩,hb1.trans (hbb.mono (by omega))⟩
end Go.Proofs.YtdbkocfbhpgpkaaGreat
