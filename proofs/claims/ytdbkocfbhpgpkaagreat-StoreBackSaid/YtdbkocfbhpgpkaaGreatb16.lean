/-
  atom.Atom.changes where the page that is set is not the page that is held.
-/
import Derived.Test.YtdbkocfbhpgpkaaGreatb05
import Derived.Test.YtdbkocfbhpgpkaaGreatb15
import Derived.Test.YtdbkocfbhpgpkaaGreatb12
import Derived.Test.YtdbkocfbhpgpkaaGreatb14
import Derived.Laws.BytesArg
import Derived.Shelf.Bytes.SlEqualAll
import Derived.Deep.RegionHeld3
import Derived.Deep.RegionLaw
set_option linter.unusedVariables false
set_option linter.unusedSimpArgs false
namespace Go.Proofs.YtdbkocfbhpgpkaaGreat
open Go Go.RowKit Go.Shelf
set_option maxRecDepth 100000
set_option maxHeartbeats 1600000
structure PC where
  at_:Nat
  a:Option Addr
  n:Nat
  c:Nat
structure CH where
  pg:Nat
  ia:Option Addr
  il:Nat
  ic:Nat
  pa:Option Addr
  pn:Nat
  pc:Nat
  ps:List PC
def RdN (w:World)(B:Nat)(A:Option Addr)(n:Nat):Prop:=∃ l:List UInt8,l.length=n∧Rd w B A l
def RdP (w:World)(B:Nat)(A:Option Addr)(ps:List PC):Prop:=
  ps≠[]→∃ b o,A=some ⟨b,o,none⟩∧b<B∧∀ i (h:i<ps.length),w.cell? ⟨b,o+i * 2,none⟩=some (.int .i64 (ps[i].at_:Int))∧w.cell? ⟨b,o+i * 2+1,none⟩=some (.slice ps[i].a ps[i].n ps[i].c)∧RdN w B ps[i].a ps[i].n
def RdCh (w:World)(B:Nat)(A:Option Addr)(cs:List CH):Prop:=
  cs≠[]→∃ b o,A=some ⟨b,o,none⟩∧b<B∧∀ i (h:i<cs.length),w.cell? ⟨b,o+i * 3,none⟩=some (.int .i64 (cs[i].pg:Int))∧w.cell? ⟨b,o+i * 3+1,none⟩=some (.slice cs[i].ia cs[i].il cs[i].ic) ∧
    w.cell? ⟨b,o+i * 3+2,none⟩=some (.slice cs[i].pa cs[i].pn cs[i].pc)∧RdN w B cs[i].ia cs[i].il∧RdP w B cs[i].pa cs[i].ps
theorem RdN.below{w w':World}{B n:Nat}{A:Option Addr}(h:RdN w B A n)(hb:Below B w w'):RdN w' B A n:=by
  obtain⟨l,h1,h2⟩:=h
  exact⟨l,h1,h2.below hb⟩
theorem RdP.below{w w':World}{B:Nat}{A:Option Addr}{ps:List PC}(h:RdP w B A ps)(hb:Below B w w'):RdP w' B A ps:=fun hne=>by
  obtain⟨b,o,rfl,hbB,hc⟩:=h hne
  exact⟨b,o,rfl,hbB,fun i hi=>⟨(hb.cell (p:=⟨b,o+i * 2,none⟩) hbB).trans (hc i hi).1,(hb.cell (p:=⟨b,o+i * 2+1,none⟩) hbB).trans (hc i hi).2.1,(hc i hi).2.2.below hb⟩⟩
theorem RdCh.below{w w':World}{B:Nat}{A:Option Addr}{cs:List CH}(h:RdCh w B A cs)(hb:Below B w w'):RdCh w' B A cs:=fun hne=>by
  obtain⟨b,o,rfl,hbB,hc⟩:=h hne
  exact⟨b,o,rfl,hbB,fun i hi=>by
    obtain⟨h1,h2,h3,h4,h5⟩:=hc i hi
    exact⟨(hb.cell (p:=⟨b,o+i * 3,none⟩) hbB).trans h1,(hb.cell (p:=⟨b,o+i * 3+1,none⟩) hbB).trans h2,(hb.cell (p:=⟨b,o+i * 3+2,none⟩) hbB).trans h3,h4.below hb,h5.below hb⟩⟩
theorem RdN.more{w:World}{B B' n:Nat}{A:Option Addr}(h:RdN w B A n)(hB:B≤B'):RdN w B' A n:=by
  obtain⟨l,h1,h2⟩:=h
  exact⟨l,h1,h2.more hB⟩
theorem RdP.more{w:World}{B B':Nat}{A:Option Addr}{ps:List PC}(h:RdP w B A ps)(hB:B≤B'):RdP w B' A ps:=fun hne=>by
  obtain⟨b,o,rfl,hbB,hc⟩:=h hne
  exact⟨b,o,rfl,Nat.lt_of_lt_of_le hbB hB,fun i hi=>⟨(hc i hi).1,(hc i hi).2.1,(hc i hi).2.2.more hB⟩⟩
theorem RdCh.more{w:World}{B B':Nat}{A:Option Addr}{cs:List CH}(h:RdCh w B A cs)(hB:B≤B'):RdCh w B' A cs:=fun hne=>by
  obtain⟨b,o,rfl,hbB,hc⟩:=h hne
  exact⟨b,o,rfl,Nat.lt_of_lt_of_le hbB hB,fun i hi=>by
    obtain⟨h1,h2,h3,h4,h5⟩:=hc i hi
    exact⟨h1,h2,h3,h4.more hB,h5.more hB⟩⟩
def pend (ps:List PC):Nat→Nat
  | 0=>0
  | i+1=>match ps[i]? with | some p=>p.at_+p.n | none=>0
structure POk(ps:List PC):Prop where
  ok:∀ i (h:i<ps.length),1≤ps[i].n∧ps[i].at_+ps[i].n≤4080∧pend ps i≤ps[i].at_
  len:ps.length≤5000
def psz (ps:List PC):Nat:=(ps.map fun p=>4+p.n).sum
structure COk(c:CH):Prop where
  pg:c.pg<4096
  img:c.il=0∨c.il=4080∧c.pn=0
  pn:c.pn=c.ps.length
  ps:POk c.ps
  sz:psz c.ps≤4088
theorem pend_succ{ps:List PC}{k:Nat}(h:k<ps.length):pend ps (k+1)=ps[k].at_+ps[k].n:=by simp[pend,h]
theorem rpieces_any(A:Option Addr)(n c:Nat)(ps:List PC)(w:World)(hr:RdP w w.heap.size A ps)(hn:n=ps.length)(ok:POk ps) :
    Calls Tryz.prog 335 #[.slice A n c] w fun e w'=>e=.returned (.bool true)∧Below w.heap.size w w':=by
  have HN:=Lib.hid hn
  have OK:=Lib.hid ok
  have hn5:n≤5000:=by have:=ok.len;omega
  clear hn ok
  go_enter Tryz.func335,Tryz.ntmps335
  go_wp2
  go_loopw [3,8] (fun s i wr=>∃ k:Nat,k≤n∧i=.int .i64 k∧s=.int .i64 ((pend ps k:Nat):Int)∧Below w.heap.size w wr) (fun _ i _=>n-natOf i)
  case atStart=>exact⟨0,by omega,rfl,rfl,Below.refl _ _⟩
  case round=>
    obtain⟨k,hk,rfl,rfl,hb⟩:=hrel
    by_cases hlt:k<n
    · have hkl:k<ps.length:=by have:=HN.out;omega
      obtain⟨b,o,rfl,hbb,hcells⟩:=hr (by intro e;rw[e] at hkl;simp at hkl)
      obtain⟨h1,h2,-⟩:=hcells k hkl
      have e1:=(hb.cell (p:=⟨b,o+k * 2,none⟩) hbb).trans h1
      have e2:=(hb.cell (p:=⟨b,o+k * 2+1,none⟩) hbb).trans h2
      obtain⟨k1,k2,k3⟩:=OK.out.ok k hkl
      have hs:=Lib.hid (pend_succ hkl)
      have hwk:wrap64 ((k:Int)+1)=(k:Int)+1:=IntWalk.wrap64_in _ (by omega)
      obtain⟨p,hp⟩:∃ p,p=ps[k]:=⟨_,rfl⟩
      obtain⟨q,hq⟩:∃ q,q=pend ps k:=⟨_,rfl⟩
      rw[← hp] at e1 e2 k1 k2 k3
      rw[← hq] at k3 ⊢
      have HPp:=Lib.hid hp
      clear hp hq h1 h2
      have f1:¬p.at_<q:=by omega
      have f2:((p.n:Int)==0)=false:=by simp;omega
      have f3:¬(4080-(p.at_:Int)<(p.n:Int)):=by omega
      go_wp2
      all_goals first | omega | skip
      refine⟨⟨k+1,by omega,by go_num,?_,hb.alloc hb.size _⟩,by simp[natOf];omega⟩
      rw[hs.out,← HPp.out]
      refine congrArg (Value.int .i64) ?_
      first | omega | (unfold wrap64;omega)
    · obtain rfl:k=n:=by omega
      go_wp2
      go_ret
      exact⟨rfl,hb⟩
theorem rchanges_any(A:Option Addr)(n c:Nat)(cs:List CH)(w:World)(hr:RdCh w w.heap.size A cs)(hn:n=cs.length)(hn1:n≤1000)(ok:∀ x∈cs,COk x)(hup:∀ i (h:i+1<cs.length),cs[i].pg<cs[i+1].pg) :
    Calls Tryz.prog 308 #[.slice A n c] w fun e w'=>e=.returned (.bool true)∧Below w.heap.size w w':=by
  have HN:=Lib.hid hn
  have OK:=Lib.hid ok
  have HU:=Lib.hid hup
  clear hn ok hup
  go_enter Tryz.func308,Tryz.ntmps308
  go_wp2
  go_loopw [3,8] (fun s i wr=>∃ (k:Nat) (q:Int),k≤n∧i=.int .i64 k∧s=.int .i64 q∧(∀ h:k<cs.length,q<(cs[k].pg:Int))∧Below w.heap.size w wr) (fun _ i _=>n-natOf i)
  case atStart=>exact⟨0,-1,by omega,rfl,rfl,fun _=>by omega,Below.refl _ _⟩
  case round=>
    obtain⟨k,q,hk,rfl,rfl,hq,hb⟩:=hrel
    by_cases hlt:k<n
    · have hkl:k<cs.length:=by have:=HN.out;omega
      obtain⟨b,o,rfl,hbb,hcells⟩:=hr (by intro e;rw[e] at hkl;simp at hkl)
      obtain⟨h1,h2,h3,h4,h5⟩:=hcells k hkl
      have e1:=(hb.cell (p:=⟨b,o+k * 3,none⟩) hbb).trans h1
      have e2:=(hb.cell (p:=⟨b,o+k * 3+1,none⟩) hbb).trans h2
      have e3:=(hb.cell (p:=⟨b,o+k * 3+2,none⟩) hbb).trans h3
      have ck:=OK.out _ (List.getElem_mem hkl)
      have hq1:=hq hkl
      have h5':=h5.below hb
      have hu:=Lib.hid (fun h=>HU.out k h)
      obtain⟨p,hp⟩:∃ p,p=cs[k]:=⟨_,rfl⟩
      rw[← hp] at e1 e2 e3 ck hq1 h5'
      have HPp:=Lib.hid hp
      clear hp h1 h2 h3 h4 h5 hq
      obtain⟨pg,ia,il,ic,pa,pn,pc,ps⟩:=p
      dsimp only at *
      have c1:=ck.pg
      have c2:=ck.img
      have c3:=ck.pn
      have c4:=ck.ps
      dsimp only at c1 c2 c3 c4
      clear ck
      obtain⟨W2,hW2,g2,b2,s2⟩:=box_alloc wr (.cells #[.int .i64 (pg:Int),.slice ia il ic,.slice pa pn pc] 306)
      have b02:=hb.trans (b2.mono hb.size)
      have RP:=rpieces_any pa pn pc ps W2 ((h5'.below (b2.mono hb.size)).more b02.size) c3 c4
      have k0:W2.cell? ⟨wr.heap.size,0,none⟩=some (.int .i64 (pg:Int)):=cellD g2 0
      have k1:W2.cell? ⟨wr.heap.size,1,none⟩=some (.slice ia il ic):=cellD g2 1
      have k2:W2.cell? ⟨wr.heap.size,2,none⟩=some (.slice pa pn pc):=cellD g2 2
      have hq2:¬(pg:Int)≤q:=by omega
      have hpg:¬(4096:Int)≤(pg:Int):=by omega
      have hwk:wrap64 ((k:Int)+1)=(k:Int)+1:=IntWalk.wrap64_in _ (by omega)
      have nxt:∀ h:k+1<cs.length,(pg:Int)<(cs[k+1].pg:Int):=fun h=>by
        have a:=hu.out h
        have b:=HPp.out
        rw[← b] at a
        exact Int.ofNat_lt.2 a
      have HX:=Lib.hid nxt
      have HC3:=Lib.hid c3
      clear s2 h5' hu nxt c3
      rcases c2 with rfl|⟨rfl,rfl⟩
      · go_wp2_with (go_at_call 335;with_reducible refine RP.mono ?_;rintro e w3 ⟨rfl,b3⟩)
        go_roundw
        case rel=>exact⟨k+1,pg,by omega,by go_num,rfl,HX.out,b02.trans (b3.mono b02.size)⟩
        case measure=>simp[natOf]<;>omega
      · go_wp2
        go_roundw
        case rel=>exact⟨k+1,pg,by omega,by go_num,rfl,HX.out,b02⟩
        case measure=>simp[natOf]<;>omega
    · obtain rfl:k=n:=by omega
      go_wp2
      go_ret
      exact⟨rfl,hb⟩
theorem rightC_any(tx:Nat)(htx:tx≤1000000)(w:World) :
    Calls Tryz.prog 267 #[.agg #[.int .u8 2,.int .i64 (tx:Int),.slice none 0 0]] w fun e w'=>e=.returned (.bool true)∧Below w.heap.size w w':=by
  have f1:¬(tx:Int)<0:=by omega
  have f2:decide ((4611686018427387904:Int)<(tx:Int))=false:=by simp;omega
  go_enter Tryz.func267,Tryz.ntmps267
  go_wp2
  go_ret
  exact⟨rfl,(Below.refl _ _).alloc (Nat.le_refl _) _⟩
theorem rightA_any(tx:Nat)(htx:tx≤1000000)(A:Option Addr)(n c:Nat)(cs:List CH)(w:World)(hr:RdCh w w.heap.size A cs)(hn:n=cs.length)(h1:1≤n)(h16:n≤16)(ok:∀ x∈cs,COk x)(hup:∀ i (h:i+1<cs.length),cs[i].pg<cs[i+1].pg) :
    Calls Tryz.prog 267 #[.agg #[.int .u8 1,.int .i64 (tx:Int),.slice A n c]] w fun e w'=>e=.returned (.bool true)∧Below w.heap.size w w':=by
  have f1:¬(tx:Int)<0:=by omega
  have f2:decide ((4611686018427387904:Int)<(tx:Int))=false:=by simp;omega
  have f3:(1:Int)≤(n:Int):=by omega
  have f4:(n:Int)≤16:=by omega
  obtain⟨W2,hW2,g2,b2,s2⟩:=box_alloc w (.cells #[.int .u8 1,.int .i64 (tx:Int),.slice A n c] 139)
  have RC:=rchanges_any A n c cs W2 ((hr.below b2).more b2.size) hn (by omega) ok hup
  have k0:W2.cell? ⟨w.heap.size,0,none⟩=some (.int .u8 1):=cellD g2 0
  have k1:W2.cell? ⟨w.heap.size,1,none⟩=some (.int .i64 (tx:Int)):=cellD g2 1
  have k2:W2.cell? ⟨w.heap.size,2,none⟩=some (.slice A n c):=cellD g2 2
  clear hn s2 h1 h16 htx
  go_enter Tryz.func267,Tryz.ntmps267
  go_wp2_with (go_at_call 308;with_reducible refine RC.mono ?_;rintro e w3 ⟨rfl,b3⟩)
  go_ret
  exact⟨rfl,b2.trans (b3.mono b2.size)⟩
end Go.Proofs.YtdbkocfbhpgpkaaGreat
namespace Go.Proofs.YtdbkocfbhpgpkaaGreat
open Go Go.RowKit
set_option maxRecDepth 100000
set_option maxHeartbeats 1600000
inductive Lp:List (Nat×Nat)→Nat→Prop
  | nil:Lp [] 0
  | snoc {ps:List (Nat×Nat)} {e f n:Nat} (h:Lp ps e) (h1:ps=[]∨e+8≤f) (h2:0<n) (h3:f+n≤4080):Lp (ps++[(f,n)]) (f+n)
structure PsQ(s:PS):Prop where
  n:s.2=none→s.1=[]
  c:∀ f t,s.2=some (f,t)→∃ e,Lp s.1 e∧(s.1=[]∨e+8≤f)∧f≤t∧t<4080
theorem PsQ.snoc{s:PS}(h:PsQ s){x:Nat}(hx:x<4080)(hl:∀ f t,s.2=some (f,t)→t<x):PsQ (psStep s x):=by
  obtain⟨ps,cur⟩:=s
  cases cur with
  | none =>
    have h0:=h.n rfl
    dsimp only at h0
    subst h0
    rw[psStep_none rfl]
    exact⟨(fun e=>nomatch e),fun f t e=>by injection e with e;injection e with e1 e2;subst e1 e2;exact⟨0,.nil,.inl rfl,Nat.le_refl _,hx⟩⟩
  | some ft =>
    obtain⟨f,t⟩:=ft
    obtain⟨e,h1,h2,h3,h4⟩:=h.c f t rfl
    have h5:=hl f t rfl
    by_cases hn:x-t≤8
    · rw[psStep_keep rfl hn]
      exact⟨(fun e=>nomatch e),fun f' t' e'=>by injection e' with e';injection e' with e1 e2;subst e1 e2;exact⟨e,h1,h2,by omega,hx⟩⟩
    · rw[psStep_new rfl hn]
      refine⟨(fun e=>nomatch e),fun f' t' e'=>?_⟩
      injection e' with e'
      injection e' with e1 e2
      subst e1 e2
      have:=Lp.snoc h1 h2 (n:=t+1-f) (by omega) (by omega)
      exact⟨_,this,.inr (by omega),Nat.le_refl _,hx⟩
theorem psQ_rev:∀ (r:List (Fin 4080)),r.reverse.Pairwise (fun x y=>x.val<y.val)→PsQ (psOf r.reverse)
  | [],_=>⟨fun _=>rfl,fun f t e=>by simp[psOf] at e⟩
  | x :: r, h => by
    have hk:=psOk_of_rev r (by rw[List.reverse_cons] at h;exact(List.pairwise_append.1 h).1)
    rw[List.reverse_cons] at h ⊢
    rw[psOf_snoc]
    obtain⟨h1,_,h3⟩:=List.pairwise_append.1 h
    refine(psQ_rev r h1).snoc x.isLt fun f t e=>?_
    obtain⟨_,_,y,hy,hyt⟩:=hk.c f t e
    have:=h3 y hy x (by simp)
    omega
theorem psQ(l:List (Fin 4080))(h:l.Pairwise (fun x y=>x.val<y.val)):∃ e,Lp (psFin (psOf l)) e:=by
  have q:=psQ_rev l.reverse (by rwa[List.reverse_reverse])
  rw[List.reverse_reverse] at q
  unfold psFin
  split
  · rename_i hc
    rw[q.n hc]
    exact⟨0,.nil⟩
  · rename_i f t hc
    obtain⟨e,h1,h2,h3,h4⟩:=q.c f t hc
    exact⟨_,.snoc h1 h2 (by omega) (by omega)⟩
def mkPC (p g:Nat×Nat):PC:=⟨p.1,some ⟨g.1,0,none⟩,p.2,g.2⟩
theorem Lp.end_le{ps:List (Nat×Nat)}{e:Nat}(h:Lp ps e):e≤4080:=by cases h<;>omega
theorem Lp.sum{ps:List (Nat×Nat)}{e:Nat}(h:Lp ps e):(ps.map fun p=>4+p.2).sum≤e+4∧(ps=[]→e=0)∧(ps.map fun p=>4+p.2).sum≤e+(if ps=[] then 0 else 4):=by
  induction h with
  | nil=>simp
  | snoc h h1 h2 h3 ih =>
    obtain⟨-,a,b⟩:=ih
    rename_i ps e f n
    rcases h1 with h1|h1
    · subst h1;simp;omega
    · have:(ps.map fun p=>4+p.2).sum≤e+4:=by split at b<;>omega
      simp;omega
theorem Lp.idx{ps:List (Nat×Nat)}{e:Nat}(h:Lp ps e):(∀ (i:Nat) (h:i<ps.length),1≤ps[i].2∧ps[i].1+ps[i].2≤4080∧∀ k,i=k+1→∃ h':k<ps.length,ps[k].1+ps[k].2≤ps[i].1)∧(∀ hne:ps≠[],(ps.getLast hne).1+(ps.getLast hne).2=e):=by
  induction h with
  | nil=>exact⟨fun i h=>absurd h (by simp),fun h=>absurd rfl h⟩
  | snoc h h1 h2 h3 ih =>
    rename_i ps e f n
    refine⟨fun i hi=>?_,fun _=>by simp⟩
    rcases Nat.lt_or_ge i ps.length with q|q
    · obtain⟨a,b,c⟩:=ih.1 i q
      rw[List.getElem_append_left q]
      refine⟨a,b,fun k hk=>?_⟩
      obtain⟨h',hc⟩:=c k hk
      exact⟨by simp;omega,by rw[List.getElem_append_left h'];exact hc⟩
    · have hil:i=ps.length:=by simp at hi;omega
      subst hil
      simp only[List.getElem_concat_length]
      refine⟨h2,h3,fun k hk=>⟨by simp;omega,?_⟩⟩
      have hkl:k<ps.length:=by omega
      rw[List.getElem_append_left hkl]
      have hne:ps≠[]:=fun e=>by subst e;simp at hkl
      have hl:=ih.2 hne
      rw[List.getLast_eq_getElem] at hl
      have hk2:ps.length-1=k:=by omega
      simp only[hk2] at hl
      rcases h1 with h1|h1
      · exact absurd h1 hne
      · omega
theorem Lp.ok{ps gs:List (Nat×Nat)}{e:Nat}(h:Lp ps e)(hg:gs.length=ps.length)(hl:ps.length≤5000):POk (List.zipWith mkPC ps gs)∧psz (List.zipWith mkPC ps gs)≤4088:=by
  have hz:(List.zipWith mkPC ps gs).length=ps.length:=by simp[hg]
  have hi:∀ (i:Nat) (q:i<(List.zipWith mkPC ps gs).length),(List.zipWith mkPC ps gs)[i].at_=(ps[i]'(by omega)).1∧(List.zipWith mkPC ps gs)[i].n=(ps[i]'(by omega)).2:=fun i q=>by simp[mkPC]
  refine⟨⟨fun i q=>?_,by omega⟩,?_⟩
  · obtain⟨a,b,c⟩:=h.idx.1 i (by omega)
    rw[(hi i q).1,(hi i q).2]
    refine⟨a,b,?_⟩
    cases i with
    | zero=>exact Nat.zero_le _
    | succ k =>
      obtain⟨h',hc⟩:=c k rfl
      rw[pend_succ (by omega),(hi k (by omega)).1,(hi k (by omega)).2]
      exact hc
  · have hs:psz (List.zipWith mkPC ps gs)=(ps.map fun p=>4+p.2).sum:=by
      unfold psz
      congr 1
      apply List.ext_getElem (by simp[hg])
      intro i h1 h2
      simp[mkPC]
    rw[hs]
    have:=h.sum.1
    have:=h.end_le
    omega
theorem conv33{A:Option Addr}{c n:Nat}{l:List UInt8}{w:World}{B:Nat}(hr:Rd w B A l)(hn:n=l.length):(convert 33 9 (.slice A n c)).run Tryz.prog w=.ok (.string ⟨l.toArray⟩) w:=by
  subst hn
  have hb:Lib.BytesIn w A l.length (l.map fun x=>(x.toNat:Int)):=fun hn=>by
    obtain⟨b,o,e,_,hc⟩:=hr (by rintro rfl;simp at hn)
    exact⟨b,o,e,fun i hi=>by rw[hc i hi];simp[u8V,hi]⟩
  have h:=hb.convert (P:=Tryz.prog) (by simp) c 33 5 9 Tryz.underlying33 Tryz.underlying5 Tryz.underlying9
  rw[h]
  congr 2
  apply ByteArray.ext
  apply Array.ext'
  rw[strOfNums_data,List.map_map]
  show l.map _=l
  conv=>rhs;rw[← List.map_id l]
  apply List.map_congr_left
  intro x _
  simp
theorem equal_ne{A C:Option Addr}{c d n m:Nat}{l k:List UInt8}{w:World}{B B':Nat}(hr:Rd w B A l)(hm:Rd w B' C k)(hn:n=l.length)(hn2:m=k.length)(hne:l≠k) :
    Calls Tryz.prog 324 #[.slice A n c,.slice C m d] w fun e w'=>e=.returned (.bool false)∧w'=w:=by
  have h1:=conv33 (c:=c) hr hn
  have h2:=conv33 (c:=d) hm hn2
  have hb:(l==k)=false:=by simp[hne]
  clear hn hn2
  go_enter Tryz.func324,Tryz.ntmps324
  go_wp2
  go_ret
  exact⟨rfl,rfl⟩
theorem Pcs.rd{n₀:Nat}{W:World}{lb:List UInt8}{v:Value}{ps:List (Nat×Nat)}(h:Pcs n₀ W lb v ps)(hn:n₀≤W.heap.size) :
    ∃ A c gs,v=.slice A ps.length c∧gs.length=ps.length∧RdP W W.heap.size A (List.zipWith mkPC ps gs):=by
  obtain⟨gs,hg,hrow,-,-,hc⟩:=h
  rcases hrow.2 with⟨rfl,h0⟩|⟨g,cap,cur,rfl,hgn,hg2,h4,h5,h6,h7⟩
  · have:ps=[]:=List.eq_nil_of_length_eq_zero h0
    subst this
    exact⟨none,0,gs,rfl,hg,fun hne=>absurd (by simp) hne⟩
  · refine⟨_,cap,gs,rfl,hg,fun _=>⟨g,0,rfl,hlt hg2,fun i hi=>?_⟩⟩
    have hi1:i<ps.length:=by simp at hi;omega
    have hi2:i<gs.length:=by omega
    have hcell:∀ j,j<ps.length * 2→W.cell? ⟨g,j,none⟩=(pcells ps gs)[j]?:=fun j hj=>by
      rw[cellD hg2 j,← h7,List.getElem?_take_of_lt hj,Array.getElem?_toList]
    have hp:∀ (ps gs:List (Nat×Nat)) (i:Nat) (h1:i<ps.length) (h2:i<gs.length),(pcells ps gs)[i * 2]? = some (.int .i64 (ps[i].1:Int))∧(pcells ps gs)[i * 2+1]? = some (.slice (some ⟨gs[i].1,0,none⟩) ps[i].2 gs[i].2):=by
      intro ps
      induction ps with
      | nil=>intro gs i h1;exact absurd h1 (by simp)
      | cons p ps ih =>
        intro gs i h1 h2
        cases gs with
        | nil=>exact absurd h2 (by simp)
        | cons q gs =>
          cases i with
          | zero=>exact⟨rfl,rfl⟩
          | succ i =>
            have:=ih gs i (by simpa using h1) (by simpa using h2)
            have e1:(i+1) * 2=i * 2+1+1:=by omega
            rw[e1]
            exact this
    obtain⟨a,b⟩:=hp ps gs i hi1 hi2
    have hO:=(hc i _ _ (List.getElem?_eq_getElem hi1) (List.getElem?_eq_getElem hi2)).2
    obtain⟨A',c',e',hlen,-,hr⟩:=hO.slice
    injection e' with e1 e2 e3
    refine⟨?_,?_,?_⟩
    · rw[Nat.zero_add,hcell _ (by omega),a];simp[mkPC]
    · rw[Nat.zero_add,hcell _ (by omega),b];simp[mkPC]
    · refine⟨_,e2.symm.trans ?_,?_⟩
      · simp[mkPC]
      · simpa[mkPC,e1] using hr
theorem lookV{w:World}{b:Nat}{m:List (Int×Value)}(h:MapI w b m)(n:Int):(Instr.lookup 191 (.map (some b)) (.int .i64 n) false).run Tryz.prog w=.ok ((m.lookup n).getD (.slice none 0 0)) w:=
  run_lookup_int (P:=Tryz.prog) Tryz.underlying191 Tryz.underlying3 h n (zeroB w)
theorem zeroE(w:World):(zeroValue 141).run Tryz.prog w=.ok (.agg #[]) w:=by
  have h:(Tryz.prog.info? 141).map (fun i=>i.zero)=some (some (.agg #[])):=by kernel_rfl
  obtain⟨i,hi,hz⟩:=Option.map_eq_some_iff.1 h
  simp[zeroValue,typeInfo,hi,hz]
theorem lookI{w:World}{b:Nat}{m:List (Int×Value)}(h:MapI w b m)(n:Int):(Instr.lookup 249 (.map (some b)) (.int .i64 n) true).run Tryz.prog w=.ok (.tuple #[(m.lookup n).getD (.agg #[]),.bool (m.lookup n).isSome]) w:=
  run_lookup_int_ok (P:=Tryz.prog) Tryz.underlying249 Tryz.underlying3 h n (zeroE w)
theorem Lp.len{ps:List (Nat×Nat)}{e:Nat}(h:Lp ps e):ps.length≤e:=by
  induction h with
  | nil=>exact Nat.le_refl _
  | snoc h h1 h2 h3 ih =>
    rcases h1 with h1|h1
    · subst h1;simp;omega
    · simp;omega
theorem Pcs.kp{S:Nat→Prop}{n₀:Nat}{W W':World}{lb:List UInt8}{v:Value}{ps:List (Nat×Nat)}(h:Pcs n₀ W lb v ps)(k:Kp S W W')(hS:∀ j,S j→j<n₀):Pcs n₀ W' lb v ps:=by
  obtain⟨gs,hg,hrow,h3,h4,hc⟩:=h
  refine⟨gs,hg,⟨hrow.1,?_⟩,h3,h4,fun i p g h1 h2=>⟨(hc i p g h1 h2).1,(hc i p g h1 h2).2.kp k fun j q1 q2=>?_⟩⟩
  · rcases hrow.2 with q|⟨g,cap,cur,e,hb,hg2,r⟩
    · exact .inl q
    · exact .inr ⟨g,cap,cur,e,hb,k.keep hg2 (fun q=>by have:=hS _ q;omega),r⟩
  · have:=hS _ q2
    have:=(hc i p g h1 h2).2.blk j q1
    omega
section
variable {Z:Nat→Prop}{w:World}{p d m a j im x s:Nat}{R:PR}
def CHs (Z:Nat→Prop)(b:Bool)(p d m:Nat)(R:PR)(f:FR)(w:World)(acc:Value)(w':World):Prop:=
  (∃ g c ch,acc=.slice (some ⟨g,0,none⟩) 1 c∧w.heap.size≤g∧RdCh w' w'.heap.size (some ⟨g,0,none⟩) [ch]∧COk ch∧ch.pg=1∧(b=false→ch.il=4080)∧(b=true→ch.il=0))∧PB Z w' p d m R∧Kp (·=f.fr) w w'
theorem chs_fin{b:Bool}{f:FR}{W6:World}(ch:CH)(hpg:ch.pg=1)(hok:COk ch)(hb1:b=false→ch.il=4080)(hb2:b=true→ch.il=0)(hN:RdN W6 W6.heap.size ch.ia ch.il)(hP:RdP W6 W6.heap.size ch.pa ch.ps)(hpb:PB Z W6 p d m R)(hk:Kp (·=f.fr) w W6)(C:Nat)(zs:Array Value) :
    CHs Z b p d m R f w (.slice (some ⟨W6.heap.size+1,0,none⟩) 1 C) ((W6.alloc (.cells #[.int .i64 1,.slice ch.ia ch.il ch.ic,.slice ch.pa ch.pn ch.pc] 306)).alloc (.cells (#[.int .i64 1,.slice ch.ia ch.il ch.ic,.slice ch.pa ch.pn ch.pc]++zs) 306)).drew:=by
  obtain⟨W7,hW7,g7,b7,s7⟩:=box_alloc W6 (.cells #[.int .i64 1,.slice ch.ia ch.il ch.ic,.slice ch.pa ch.pn ch.pc] 306)
  obtain⟨W8,hW8,g8,b8,s8⟩:=box_alloc W7 (.cells (#[.int .i64 1,.slice ch.ia ch.il ch.ic,.slice ch.pa ch.pn ch.pc]++zs) 306)
  obtain⟨W9,hW9,-,b9⟩:=drew_name W8
  rw[hW7,hW8,hW9,← s7]
  have g9:=keepB b9 g8
  have bb:Below W6.heap.size W6 W9:=(b7.trans (b8.mono b7.size)).trans (b9.mono (Nat.le_trans b7.size b8.size))
  have hs9:=bb.size
  refine⟨⟨_,_,ch,rfl,by have:=hk.size;omega,fun _=>⟨_,0,rfl,hlt g9,fun i hi=>?_⟩,hok,hpg,hb1,hb2⟩,hpb.below bb,hk.then (Kp.of bb)⟩
  have:i=0:=by simp at hi;exact hi
  subst this
  refine⟨?_,?_,?_,(hN.below bb).more hs9,(hP.below bb).more hs9⟩
  · rw[cellD g9,Array.getElem?_append_left (by simp)];simp[hpg]
  · rw[cellD g9,Array.getElem?_append_left (by simp)];simp
  · rw[cellD g9,Array.getElem?_append_left (by simp)];simp
theorem xchanges0_any{f:FR}{v:Value}{l:List UInt8}(h:XB Z w x a s (some (v,l)))(h2:AB w a p j im false)(h3:PB Z w p d m R)(hf:R.held=some f)(hne:f.bytes≠l) :
    Calls Tryz.prog 288 #[.pointer (some ⟨x,0,none⟩)] w fun e w'=>∃ acc,e=.returned (.tuple #[acc,.int .i64 0])∧CHs Z false p d m R f w acc w':=by
  have CG:=xchanged1_any h
  go_enter Tryz.func288,Tryz.ntmps288
  go_wp2_with (go_at_call 323;(with_reducible refine CG.mono ?_);rintro e w2 ⟨⟨q,c,rfl,hq,hc,cur,hcur,hc0⟩,b2⟩)
  have q0:w2.cell? ⟨q,0,none⟩=some (.int .i64 1):=(cellD hcur 0).trans hc0
  go_loopw [16,4] (fun i acc wr=>(i=.int .i64 0∧acc=.slice none 0 0∧wr=w2)∨(i=.int .i64 1∧CHs Z false p d m R f w acc wr)) (fun i _ _=>2-(RowKit.intOf i).toNat)
  case atStart=>exact .inl ⟨rfl,rfl,rfl⟩
  case round=>
    rcases hrel with⟨rfl,rfl,rfl⟩|⟨rfl,hp⟩
    · have h2':=h2.below b2
      have hx:=h.below b2
      have h3':=h3.below b2
      have c1:wr.cell? ⟨x,1,none⟩=some (.pointer (some ⟨a,0,none⟩)):=cellD hx.box 1
      have d1:wr.cell? ⟨a,1,none⟩=some (.pointer (some ⟨p,0,none⟩)):=cellD h2'.box 1
      have PG:=pget1_any h3' hf
      obtain⟨cur5,e5,-⟩:=(h3'.fr f hf).row
      have hxf:x≠f.fr:=tag_ne hx.box e5 (by decide)
      have haf:a≠f.fr:=tag_ne h2'.box e5 (by decide)
      have hvf:∀ u,some (v,l)=some u→∀ g,u.1.ownBlock=some g→¬g=f.fr:=fun u e g q1 q2=>by
        injection e with e;subst e;exact(hx.pay _ rfl).1.tag e5 (by decide) (q2▸q1)
      have AF:=fun(w3:World) (k3:Kp (·=f.fr) wr w3)=>And.intro (hx.kp k3 hxf (hx.map.ne e5) hvf (fun _ _ h=>h)) (h2'.kp k3 haf (h2'.map.ne e5))
      have hL:f.bytes.length=4080:=(h3'.fr f hf).len
      go_upto_region 8 with (go_at_call 274;(with_reducible refine PG.mono ?_);rintro e w3 ⟨⟨v3,rfl,o3⟩,h33,k3⟩)
      obtain⟨hx3,h23⟩:=AF w3 k3
      have hl:l.length=4080:=(hx3.pay _ rfl).2.1
      have hO:=(hx3.pay _ rfl).1
      obtain⟨g1,c3,rfl,hc3,hg1,r1⟩:=(o3.down (Nat.zero_le _)).rd0 hL (by decide)
      obtain⟨g2,c4,e4,hc4,hg2,r2⟩:=hO.rd0 hl (by decide)
      dsimp only at e4
      subst e4
      have EQ:=equal_ne (c:=c3) (d:=c4) r1 r2 hL.symm hl.symm hne
      have m3:MapI w3 s [(1,.slice (some ⟨g2,0,none⟩) 4080 c4)]:=hx3.map
      have L:=lookV m3 1
      have c2:w3.cell? ⟨x,2,none⟩=some (.map (some s)):=cellD hx3.box 2
      go_upto_region 11 with (go_at_call 324;(with_reducible refine EQ.mono ?_);rintro e w3 ⟨rfl,rfl⟩)
      obtain⟨W4,hW4,g4,b4,s4⟩:=box_alloc w3 (.cells #[.int .i64 1,.slice none 0 0,.slice none 0 0] 306)
      rw[hW4]
      have HS4:=Lib.hid s4
      clear s4 EQ L
      have hx4:=hx3.below b4
      have h24:=h23.below b4
      have cc1:W4.cell? ⟨x,1,none⟩=some (.pointer (some ⟨a,0,none⟩)):=cellD hx4.box 1
      have cc3:W4.cell? ⟨a,3,none⟩=some (.map (some im)):=cellD h24.box 3
      have mI:MapI W4 im []:=h24.map
      have L2:=lookI mI 1
      go_upto_region 12 with fail
      obtain⟨W5,hW5,g5',b5,s5⟩:=box_alloc W4 (.cells #[] 141)
      rw[hW5]
      have g5:=keepB b5 g4
      have k1:W5.cell? ⟨w3.heap.size,1,none⟩=some (.slice none 0 0):=cellD g5 1
      have z1:W5.frozen? ⟨w3.heap.size,1,none⟩=false:=frozenD g5 1
      obtain⟨W6,hW6,g6,k6,s6⟩:=set_name 1 g5 (.slice (some ⟨g2,0,none⟩) 4080 c4)
      have y0:W6.cell? ⟨w3.heap.size,0,none⟩=some (.int .i64 1):=cellD g6 0
      have y1:W6.cell? ⟨w3.heap.size,1,none⟩=some (.slice (some ⟨g2,0,none⟩) 4080 c4):=cellD g6 1
      have y2:W6.cell? ⟨w3.heap.size,2,none⟩=some (.slice none 0 0):=cellD g6 2
      have HS5:=Lib.hid s5
      have HS6:=Lib.hid s6
      clear s5 s6 L2 cc1 cc3
      have b46:Below w3.heap.size w3 W6:=(b4.trans (b5.mono b4.size)).trans (k6.below (Nat.le_trans b4.size b5.size) fun k hk e=>Nat.lt_irrefl _ (e▸hk))
      have FN:=fun C zs=>chs_fin (Z:=Z) (b:=false) (w:=w) (p:=p) (d:=d) (m:=m) (R:=R) (f:=f) (W6:=W6) ⟨1,some ⟨g2,0,none⟩,4080,c4,none,0,0,[]⟩ rfl ⟨(show 1<4096 by decide),.inr ⟨rfl,rfl⟩,rfl,⟨fun i h=>absurd h (by simp),by simp⟩,by simp[psz]⟩ (fun _=>rfl) (fun e=>nomatch e)
        ⟨l,hl,(r2.below b46).more b46.size⟩ (fun hne=>absurd rfl hne) (h33.below b46) (((Kp.of b2).then k3).then (Kp.of b46)) C zs
      have HF:=Lib.hid FN
      clear FN
      go_wp2
      go_roundw
      case rel=>exact .inr ⟨rfl,HF.out _ _⟩
      case measure=>decide
    · go_wp2
      go_ret2
      exact⟨_,rfl,hp⟩
theorem xchanges1_any{f:FR}{v:Value}{l:List UInt8}(h:XB Z w x a s (some (v,l)))(h2:AB w a p j im true)(h3:PB Z w p d m R)(hf:R.held=some f)(hne:f.bytes≠l) :
    Calls Tryz.prog 288 #[.pointer (some ⟨x,0,none⟩)] w fun e w'=>∃ acc,e=.returned (.tuple #[acc,.int .i64 0])∧CHs Z true p d m R f w acc w':=by
  have CG:=xchanged1_any h
  go_enter Tryz.func288,Tryz.ntmps288
  go_wp2_with (go_at_call 323;(with_reducible refine CG.mono ?_);rintro e w2 ⟨⟨q,c,rfl,hq,hc,cur,hcur,hc0⟩,b2⟩)
  have q0:w2.cell? ⟨q,0,none⟩=some (.int .i64 1):=(cellD hcur 0).trans hc0
  go_loopw [16,4] (fun i acc wr=>(i=.int .i64 0∧acc=.slice none 0 0∧wr=w2)∨(i=.int .i64 1∧CHs Z true p d m R f w acc wr)) (fun i _ _=>2-(RowKit.intOf i).toNat)
  case atStart=>exact .inl ⟨rfl,rfl,rfl⟩
  case round=>
    rcases hrel with⟨rfl,rfl,rfl⟩|⟨rfl,hp⟩
    · have h2':=h2.below b2
      have hx:=h.below b2
      have h3':=h3.below b2
      have c1:wr.cell? ⟨x,1,none⟩=some (.pointer (some ⟨a,0,none⟩)):=cellD hx.box 1
      have d1:wr.cell? ⟨a,1,none⟩=some (.pointer (some ⟨p,0,none⟩)):=cellD h2'.box 1
      have PG:=pget1_any h3' hf
      obtain⟨cur5,e5,-⟩:=(h3'.fr f hf).row
      have hxf:x≠f.fr:=tag_ne hx.box e5 (by decide)
      have haf:a≠f.fr:=tag_ne h2'.box e5 (by decide)
      have hvf:∀ u,some (v,l)=some u→∀ g,u.1.ownBlock=some g→¬g=f.fr:=fun u e g q1 q2=>by
        injection e with e;subst e;exact(hx.pay _ rfl).1.tag e5 (by decide) (q2▸q1)
      have AF:=fun(w3:World) (k3:Kp (·=f.fr) wr w3)=>And.intro (hx.kp k3 hxf (hx.map.ne e5) hvf (fun _ _ h=>h)) (h2'.kp k3 haf (h2'.map.ne e5))
      have hL:f.bytes.length=4080:=(h3'.fr f hf).len
      go_upto_region 8 with (go_at_call 274;(with_reducible refine PG.mono ?_);rintro e w3 ⟨⟨v3,rfl,o3⟩,h33,k3⟩)
      obtain⟨hx3,h23⟩:=AF w3 k3
      have hl:l.length=4080:=(hx3.pay _ rfl).2.1
      have hO:=(hx3.pay _ rfl).1
      obtain⟨g1,c3,rfl,hc3,hg1,r1⟩:=(o3.down (Nat.zero_le _)).rd0 hL (by decide)
      obtain⟨g2,c4,e4,hc4,hg2,r2⟩:=hO.rd0 hl (by decide)
      dsimp only at e4
      subst e4
      have EQ:=equal_ne (c:=c3) (d:=c4) r1 r2 hL.symm hl.symm hne
      have m3:MapI w3 s [(1,.slice (some ⟨g2,0,none⟩) 4080 c4)]:=hx3.map
      have L:=lookV m3 1
      have c2:w3.cell? ⟨x,2,none⟩=some (.map (some s)):=cellD hx3.box 2
      go_upto_region 11 with (go_at_call 324;(with_reducible refine EQ.mono ?_);rintro e w3 ⟨rfl,rfl⟩)
      obtain⟨W4,hW4,g4,b4,s4⟩:=box_alloc w3 (.cells #[.int .i64 1,.slice none 0 0,.slice none 0 0] 306)
      rw[hW4]
      have HS4:=Lib.hid s4
      clear s4 EQ L
      have hx4:=hx3.below b4
      have h24:=h23.below b4
      have cc1:W4.cell? ⟨x,1,none⟩=some (.pointer (some ⟨a,0,none⟩)):=cellD hx4.box 1
      have cc3:W4.cell? ⟨a,3,none⟩=some (.map (some im)):=cellD h24.box 3
      have mI:MapI W4 im [(1,.agg #[])]:=h24.map
      have L2:=lookI mI 1
      go_upto_region 12 with fail
      obtain⟨W5,hW5,g5',b5,s5⟩:=box_alloc W4 (.cells #[] 141)
      rw[hW5]
      have g5:=keepB b5 g4
      have rd:∀ {g:Nat} {l:List UInt8},Rd w3 w3.heap.size (some ⟨g,0,none⟩) l→l.length=4080→∀ k (h:k<l.length),W5.cell? ⟨g,0+k,none⟩=some (u8V l[k]):=fun {g l} r hl k hk=>by
        obtain⟨b,o,e,hb,hc⟩:=r (by rintro rfl;simp at hl)
        injection e with e
        injection e with e1 e2
        subst e1 e2
        exact(cellK ((b4.trans (b5.mono b4.size)).block _ hb)).trans (hc k hk)
      have b35:Below w3.heap.size w3 W5:=b4.trans (b5.mono b4.size)
      have DF:=diff_any W5 g1 0 c3 g2 0 c4 f.bytes l hL hl (Nat.lt_of_lt_of_le hg1 b35.size) (Nat.lt_of_lt_of_le hg2 b35.size) hc4 (rd r1 hL) (rd r2 hl)
      obtain⟨eL,hLp⟩:=psQ _ (ixU_asc f.bytes l 4080 (Nat.le_refl _))
      have HLp:=Lib.hid hLp
      have hlen:(psFin (psOf (ixU f.bytes l 4080))).length≤5000:=by have:=hLp.len;have:=hLp.end_le;omega
      generalize hps:psFin (psOf (ixU f.bytes l 4080))=ps at DF hLp hlen
      have HLp:=Lib.hid hLp
      have HLn:=Lib.hid hlen
      clear hps hlen hLp rd
      have HS5:=Lib.hid s5
      clear s5 L2 cc1 cc3
      go_upto_region 15 with (go_at_call 325;(with_reducible refine DF.mono ?_);rintro e w6 ⟨vd,rfl,hpc,b6⟩;have g6:=keepB b6 g5;obtain⟨Ad,cd,-,rfl,-,-⟩:=hpc.rd b6.size;have k2:w6.cell? ⟨w3.heap.size,2,none⟩=some (.slice none 0 0):=cellD g6 2;have z2:w6.frozen? ⟨w3.heap.size,2,none⟩=false:=frozenD g6 2;obtain⟨W7,hW7,g7,k7,s7⟩:=set_name 2 g6 (.slice Ad ps.length cd))
      obtain⟨A',c',gs,e',hgs,hrp⟩:=(hpc.kp k7 (fun j e=>by have:=b4.size;have:=HS5.out;have:=HS4.out;omega)).rd (Nat.le_trans b6.size k7.size)
      injection e' with e1 e2 e3
      subst e1 e3
      have y0:W7.cell? ⟨w3.heap.size,0,none⟩=some (.int .i64 1):=cellD g7 0
      have y1:W7.cell? ⟨w3.heap.size,1,none⟩=some (.slice none 0 0):=cellD g7 1
      have y2:W7.cell? ⟨w3.heap.size,2,none⟩=some (.slice Ad ps.length cd):=cellD g7 2
      have b36:Below w3.heap.size w3 W7:=((b35).trans (b6.mono b35.size)).trans (k7.below (Nat.le_trans b35.size b6.size) fun k hk e=>Nat.lt_irrefl _ (e▸hk))
      have FN:=fun C zs=>chs_fin (Z:=Z) (b:=true) (w:=w) (p:=p) (d:=d) (m:=m) (R:=R) (f:=f) (W6:=W7) ⟨1,none,0,0,Ad,ps.length,cd,List.zipWith mkPC ps gs⟩ rfl ⟨(show 1<4096 by decide),.inl rfl,(by simp[hgs]),(HLp.out.ok hgs HLn.out).1,(HLp.out.ok hgs HLn.out).2⟩ (fun e=>nomatch e) (fun _=>rfl)
        ⟨[],rfl,fun h=>absurd rfl h⟩ hrp (h33.below b36) (((Kp.of b2).then k3).then (Kp.of b36)) C zs
      have HF:=Lib.hid FN
      clear FN s7
      go_wp2
      go_roundw
      case rel=>exact .inr ⟨rfl,HF.out _ _⟩
      case measure=>decide
    · go_wp2
      go_ret2
      exact⟨_,rfl,hp⟩
end
end Go.Proofs.YtdbkocfbhpgpkaaGreat
