/-
  play: the walk.
-/
import Derived.Test.YtdbkocfbhpgpkaaGreatb44
import Derived.Test.YtdbkocfbhpgpkaaGreatb43
import Derived.Test.YtdbkocfbhpgpkaaGreatb26
set_option linter.unusedVariables false
set_option linter.unusedSimpArgs false
namespace Go.Proofs.YtdbkocfbhpgpkaaGreat
open Go Go.RowKit Go.Shelf
open Go.Ev (PgM PageOk CellsOut rowsOf rowsV rowV rowsOf_len BelowIs)
set_option maxRecDepth 100000
set_option maxHeartbeats 4000000
theorem nc_klen(c:NC):c.key.length=c.kn:=by simp[NC.key,bl]
theorem nc_vlen(c:NC):c.val.length=c.vn:=by simp[NC.val,bl]
theorem seach_g{w:World}{n₀ n₁ be bt bl bs btx bm s t tx p most L:Nat}{cv:CV}{c:NC}{st:Told}{T:TR}{m:List (Int×Value)}{sto:Array Value}{lv0:Value}(vf:Nat→Bool)
    (hS:SS w n₀ bt bl lv0 st) (hL:st.2.length=L) (hL2:L≤200) (hm2:most≤1000000) (hn0:n₀≤w.heap.size) (hn1:n₀≤n₁)
    (hbe:w.heap[be]? = some (.cells #[.func (.func 96) #[] #[.pointer (some ⟨bt,0,none⟩),.pointer (some ⟨bs,0,none⟩),.pointer (some ⟨btx,0,none⟩),.pointer (some ⟨bl,0,none⟩),.pointer (some ⟨bm,0,none⟩)]] 165 (0,0)))
    (hbs:w.heap[bs]? = some (.cells #[.pointer (some ⟨s,0,none⟩)] 24 (0,0))) (hbx:w.heap[btx]? = some (.cells #[.int .i64 (tx:Int)] 3 (0,0))) (hbm:w.heap[bm]? = some (.cells #[.int .i64 (most:Int)] 3 (0,0)))
    (hs:w.heap[s]? = some (.cells sto 125 (0,0))) (h13:sto[13]? = some (.pointer (some ⟨t,0,none⟩))) (ht:TB w t T) (hmm:MapI w T.who m) (hl:m.lookup (tx:Int)=some (mk 2 p))
    (ho:CVO w n₁ cv c) (hv:IsV c)
    (hG:∃ b q,(b=2∨b=3∨b=5)∧m.lookup (nOf c:Int)=some (mk b q)∧vf (nOf c)=(decide ((nOf c:Int)=(tx:Int)) || visB b q p)) :
    Calls Tryz.prog 191 #[.agg #[cv.k,cv.v],.pointer (some ⟨be,0,none⟩)] w fun e w'=>e=.returned (.bool true)∧∃ lv',SS w' n₀ bt bl lv' (scanStep vf most st c)∧(∀ b,lv'.ownBlock=some b→lv0.ownBlock=some b∨w.heap.size≤b)∧Kp (SSF bt bl lv0) w w':=by
  obtain⟨kk,n,hkey,h1,h2,hnn⟩:=hv
  have hk:=kOf_eq hkey
  have hnb:=nOf_eq hkey hnn
  have hr:=ho.rk
  rw[hkey] at hr
  have hkn:cv.kn=(vkey kk n).length:=by rw[← hkey,ho.kn,nc_klen]
  have hvo:=ho.v
  have hvn:cv.vn=c.val.length:=by rw[ho.vn,nc_vlen]
  obtain⟨ka,kn,kc,va,vn,vc⟩:=cv
  replace hvn:vn=c.val.length:=hvn
  obtain⟨hsc,hscm⟩:vn≤vc∧vc≤maxLen:=by
    obtain⟨Av',cv',ev',hvl,hvm,-⟩:=hvo.slice
    injection ev' with e1 e2 e3
    have e3:vc=cv':=e3
    omega
  show Calls Tryz.prog 191 #[.agg #[.slice ka kn kc,.slice va vn vc],.pointer (some ⟨be,0,none⟩)] w _
  dsimp only at hr hkn
  obtain⟨W1,hW1,g1,b1,s1⟩:=box_alloc w (.cells #[.slice ka kn kc,.slice va vn vc] 68)
  have PT:=part_g ka kn kc n kk W1 ((hr.below b1).more b1.size) hkn h1 h2 hnn
  have y0:W1.cell? ⟨w.heap.size,0,none⟩=some (.slice ka kn kc):=cellD g1 0
  have y1:W1.cell? ⟨w.heap.size,1,none⟩=some (.slice va vn vc):=cellD g1 1
  replace hvo:Own w n₁ (.slice va vn vc) c.val:=hvo
  have AF:=fun(w2:World) (b2:Below W1.heap.size W1 w2) (B:Option Addr) (d:Nat) (o2:Own w2 W1.heap.size (.slice B kk.length d) kk)=>
    have b12:=b1.trans (b2.mono b1.size)
    scanc_g (aA:=ka) (an:=kn) (ac:=kc) (kA:=B) (kn:=kk.length) (kc:=d) (sA:=va) (sn:=vn) (sc:=vc) (by_:=n) (c:=c) (L:=L) (tx:=tx) (p:=p) (most:=most) vf (hS.below b12) hL hL2 hm2 (Nat.le_trans hn0 b12.size) (keepB b12 hbs) (keepB b12 hbx) (keepB b12 hbm) (keepB b12 hs) h13 (show TB w2 t T from keepB b12 ht) (hmm.below b12) hl
      (by rw[hk];exact o2.rdf.down (Nat.le_trans hn0 b1.size)) (by rw[hk]) h1 (by omega) ((hvo.belowS b12).rdf.down hn1) hvn hsc hscm hnb (by rw[hnb] at hG;exact hG)
  have HA:=Lib.hid AF
  have HS1:=Lib.hid s1
  clear AF s1 hr hkn h1 h2 hnn hS hL hL2 hm2 hn0 hn1 hbs hbx hbm hs h13 ht hmm hl ho hG hkey hk hnb hvo hvn hsc hscm
  go_enter Tryz.func191,Tryz.ntmps191
  go_upto_region 2 with (go_at_call 90;(with_reducible refine PT.mono ?_);rintro e w2 ⟨⟨B,d,rfl,o2⟩,b2⟩;have V:=HA.out w2 b2 B d o2;have x0:w2.cell? ⟨w.heap.size,0,none⟩=some (.slice ka kn kc):=cellD (keepB b2 g1) 0;have x1:w2.cell? ⟨w.heap.size,1,none⟩=some (.slice va vn vc):=cellD (keepB b2 g1) 1;have xb:w2.cell? ⟨be,0,none⟩=some (.func (.func 96) #[] #[.pointer (some ⟨bt,0,none⟩),.pointer (some ⟨bs,0,none⟩),.pointer (some ⟨btx,0,none⟩),.pointer (some ⟨bl,0,none⟩),.pointer (some ⟨bm,0,none⟩)]):=cellD (keepB b2 (keepB b1 hbe)) 0)
  have b12:=b1.trans (b2.mono b1.size)
  have HB12:=Lib.hid b12
  clear b1 b2 b12 o2
  go_wp2_with (go_at_call 96;(with_reducible refine V.mono ?_);rintro e w3 ⟨rfl,lv',hs3,hl3,k3⟩)
  go_ret
  exact⟨rfl,lv',hs3,fun b e=>(hl3 b e).imp id fun h=>Nat.le_trans HB12.out.size h,(Kp.of HB12.out).then k3⟩
noncomputable def tells(vf:Nat→Bool)(most:Nat)(ps:List NC):Told:=ps.foldl (scanStep vf most) ([],[])
theorem tells_snoc{vf:Nat→Bool}{most q:Nat}{ps:List NC}(h:q<ps.length):tells vf most (ps.take (q+1))=scanStep vf most (tells vf most (ps.take q)) ps[q]:=by
  unfold tells
  rw[List.take_succ_eq_append_getElem h,List.foldl_append]
  rfl
theorem step_len{vf:Nat→Bool}{most:Nat}{s:Told}{c:NC}:(scanStep vf most s c).2.length≤s.2.length+1:=by
  unfold scanStep
  split
  · omega
  · dsimp only
    split
    · split<;>simp
    · omega
theorem tells_len{vf:Nat→Bool}{most:Nat}{ps:List NC}:∀ q,q≤ps.length→(tells vf most (ps.take q)).2.length≤q
  | 0,_=>Nat.le_refl _
  | q + 1, h => by
    rw[tells_snoc (by omega)]
    have:=tells_len (vf:=vf) (most:=most) (ps:=ps) q (by omega)
    have:=step_len (vf:=vf) (most:=most) (s:=tells vf most (ps.take q)) (c:=ps[q]'(by omega))
    omega
section
variable {X:ST}{D D':SD}{w w':World}{k:Nat}{cs:List NC}{U:Int→Option Us}
theorem sall_g{n₀ i tx p most bt bl bs btx bm fn fc:Nat}{fa:Option Addr}{fl:List UInt8}{vf:Nat→Bool}(g:GS X D w k cs U)(hl:D.tm.lookup (tx:Int)=some (mk 2 p))(hmv:MarksV D cs tx p vf)(hm2:most≤1000000)
    (hn0:n₀≤w.heap.size) (hlo:∀ b,SG X D b→b<n₀) (hbt:w.heap[bt]? = some (.cells #[.slice none 0 0] 33 (0,0))) (hbl:w.heap[bl]? = some (.cells #[.slice none 0 0] 50 (0,0))) (ht0:n₀≤bt) (hl0:n₀≤bl)
    (hbs:w.heap[bs]? = some (.cells #[.pointer (some ⟨X.s,0,none⟩)] 24 (0,0))) (hbx:w.heap[btx]? = some (.cells #[.int .i64 (tx:Int)] 3 (0,0))) (hbm:w.heap[bm]? = some (.cells #[.int .i64 (most:Int)] 3 (0,0)))
    (hs0:n₀≤bs) (hx0:n₀≤btx) (hm0:n₀≤bm)
    (hi:BelowIs cs fl i) (hno:∀ c∈cs,c.key≠fl) (hf:Own w n₀ (.slice fa fn fc) fl) (hfn:fn=fl.length) :
    Calls Tryz.prog 95 #[.pointer (some ⟨X.s,0,none⟩),.slice fa fn fc,.slice none 0 0,.func (.func 96) #[] #[.pointer (some ⟨bt,0,none⟩),.pointer (some ⟨bs,0,none⟩),.pointer (some ⟨btx,0,none⟩),.pointer (some ⟨bl,0,none⟩),.pointer (some ⟨bm,0,none⟩)]] w fun e w'=>e=.returned (.int .i64 0)∧∃ lv w2,SS w' n₀ bt bl lv (tells vf most (scanTo cs i []))∧Qh X D (pgL 1 0 cs) w2∧Kp (SG X D) w w2∧(∀ b,lv.ownBlock=some b→w2.heap.size≤b)∧Kp (fun b=>b=bt∨b=bl) w2 w':=by
  refine each_g fun W4 hW4=>?_
  obtain⟨W4',hW4',g4,b4,s4⟩:=box_alloc w (.cells #[.func (.func 96) #[] #[.pointer (some ⟨bt,0,none⟩),.pointer (some ⟨bs,0,none⟩),.pointer (some ⟨btx,0,none⟩),.pointer (some ⟨bl,0,none⟩),.pointer (some ⟨bm,0,none⟩)]] 165)
  obtain rfl:W4'=W4:=hW4'.symm.trans hW4
  have g4s:=g.below b4
  have hl4:=pg_len g.ok
  have hps:(scanTo cs i []).length≤60:=by
    have h1:(scanTo cs i []).length≤(cs.drop i).length:=List.Sublist.length_le (List.takeWhile_sublist _)
    have:=g.len
    rw[List.length_drop] at h1;omega
  have hsub:∀ c∈scanTo cs i [],c∈cs:=fun c hc=>List.mem_of_mem_drop (List.takeWhile_subset _ hc)
  have nS:∀ b,SG X D b→¬n₀≤b:=fun b e h=>by have:=hlo b e;omega
  refine(pairs_g (Z:=fun _=>False) (I:=fun A cv w2 q wr=>Qh X D (pgL 1 0 cs) w2∧Kp (SG X D) W4' w2∧RdC w2 w2.heap.size A cv∧cv.length=(scanTo cs i []).length∧(∀ j (h:j<cv.length) (g:j<(scanTo cs i []).length),CVO w2 n₀ cv[j] (scanTo cs i [])[j]) ∧
      w2.heap[bt]? = some (.cells #[.slice none 0 0] 33 (0,0))∧w2.heap[bl]? = some (.cells #[.slice none 0 0] 50 (0,0)) ∧
      ∃ lv,SS wr n₀ bt bl lv (tells vf most ((scanTo cs i []).take q))∧(∀ b,lv.ownBlock=some b→w2.heap.size≤b)∧Kp (fun b=>b=bt∨b=bl) w2 wr)
      ((cellD g4s.st.sb 12)) g4s.st.ab (fun w1 x sx bb hx hxl hsl=>?_) (fun A cv w2 q wr hI=>?_) (fun A cv w2 q wr wr' hI hb=>?_) (fun A cv w2 q wr hq hI=>?_)).mono ?_
  · have g1:=g4s.below bb
    have LD:=load_any (S:=SG X D) (x:=x) g.ok g.v1 (stb_qs (fun _=>False) X D (pgL 1 0 cs) x sx) (fun k e=>g1.st.sg e) (fun w2 b2=>xget_st (g1.st.below b2) (hx.below b2) (fun e=>by have:=g4s.st.pb.map.lt;omega) g.iv.pg hl4 (by rw[g.iv.base,g.iv.blen];decide) (by rw[g.iv.base];decide))
    have DN:=down_any (key:=.slice fa fn fc) (stb_qs (fun _=>False) X D (pgL 1 0 cs) x sx) LD
    have hf1:Own w1 n₀ (.slice fa fn fc) fl:=(hf.belowS b4).belowS bb
    refine(scan_g0 DN (stb_qs (fun _=>False) X D (pgL 1 0 cs) x sx) (own_sg hf1 hlo) hfn hi hno g.len).mono ?_
    rintro e w2 ⟨⟨A,c,cv,rfl,hrd,hcl,hcv⟩,hq2,k2⟩
    have z4:=b4.size
    have z1:=bb.size
    have kb:=fun {b:Nat} {o:Obj} (h:w.heap[b]? = some o) (hb:n₀≤b)=>k2.keep (keepB bb (keepB b4 h)) fun e=>nS b e hb
    have hcv':∀ j (h:j<cv.length) (g:j<(scanTo cs i []).length),CVO w2 n₀ cv[j] (scanTo cs i [])[j]:=fun j h g=>by
      have o:=hcv j h g
      exact⟨o.kn,o.vn,o.k.down (by omega),o.v.down (by omega)⟩
    refine⟨A,c,cv,rfl,by omega,hq2.2,(Kp.of bb).then k2,hrd,hcl,hcv',kb hbt ht0,kb hbl hl0,.slice none 0 0,⟨⟨none,0,kb hbt ht0,fun h=>absurd rfl h⟩,[],kb hbl hl0,World.ownsRow_nil _ _ _ _,rfl,fun i h=>by simp at h⟩,fun b e=>(nomatch e),Kp.refl _ _⟩
  · obtain⟨a1,a2,a3,a4,a5,a6,a7,lv,a8,a9,a10⟩:=hI
    intro hne
    obtain⟨b,o,e,hb,hc⟩:=a3 hne
    have hl:0<cv.length:=List.length_pos_iff.2 hne
    have n1:∀ {g:Nat} {v:Value} {t:TypeId},w2.heap[g]? = some (.cells #[v] t (0,0))→b≠g:=fun {g v t} hg e=>by
      have:=(hc 0 hl).2
      subst e
      rw[cellD hg] at this
      simp at this
    have hk:=a10.block b hb (fun q=>q.elim (fun q=>n1 a6 q) fun q=>n1 a7 q)
    exact⟨b,o,e,Nat.lt_of_lt_of_le hb a10.size,fun j hj=>⟨(cell_same hk _).trans (hc j hj).1,(cell_same hk _).trans (hc j hj).2⟩⟩
  · obtain⟨a1,a2,a3,a4,a5,a6,a7,lv,a8,a9,a10⟩:=hI
    exact⟨a1,a2,a3,a4,a5,a6,a7,lv,a8.below hb,a9,a10.then (Kp.of hb)⟩
  · obtain⟨a1,a2,a3,a4,a5,a6,a7,lv,a8,a9,a10⟩:=hI
    have hqp:q<(scanTo cs i []).length:=by omega
    obtain⟨f,-,-,st2⟩:=id a1
    have ne:∀ {g:Nat} {x:Array Value} {t:TypeId} {z:Nat×Nat},w2.heap[g]? = some (.cells x t z)→t≠33→t≠50→¬(g=bt∨g=bl):=fun hg h1 h2 e=>by
      rcases e with e|e
      · exact tag_ne hg a6 h1 e
      · exact tag_ne hg a7 h2 e
    have at2:=fun {b:Nat} {o:Obj} (h:W4'.heap[b]? = some o) (hb:n₀≤b)=>a2.keep h fun e=>nS b e hb
    have hbe2:=a10.keep (at2 g4 hn0) (ne (at2 g4 hn0) (by decide) (by decide))
    have hbs2:=a10.keep (at2 (keepB b4 hbs) hs0) (ne (at2 (keepB b4 hbs) hs0) (by decide) (by decide))
    have hbx2:=a10.keep (at2 (keepB b4 hbx) hx0) (ne (at2 (keepB b4 hbx) hx0) (by decide) (by decide))
    have hbm2:=a10.keep (at2 (keepB b4 hbm) hm0) (ne (at2 (keepB b4 hbm) hm0) (by decide) (by decide))
    have hst2:=a10.keep (show w2.heap[X.s]? = _ from st2.sb) (ne st2.sb (by decide) (by decide))
    have htb2:=a10.keep (show w2.heap[X.B.t]? = _ from st2.tb) (ne st2.tb (by decide) (by decide))
    have hmm2:MapI wr D.T.who D.tm:=by
      have h:=st2.tm.kp a10 (fun e=>e.elim (fun e=>st2.tm.ne a6 e) fun e=>st2.tm.ne a7 e)
      have e:D.T.who=X.who:=g.st.tw
      rw[e];exact h
    have o:=a5 q hq hqp
    have nk:∀ {v:Value} {l:List UInt8} {B:Nat},Own w2 B v l→∀ g,v.ownBlock=some g→¬(g=bt∨g=bl):=fun o g e1 e2=>e2.elim (fun e=>o.tag a6 (by decide) (e▸e1)) fun e=>o.tag a7 (by decide) (e▸e1)
    have o':CVO wr n₀ cv[q] (scanTo cs i [])[q]:=⟨o.kn,o.vn,o.k.kp a10 (nk o.k),o.v.kp a10 (nk o.v)⟩
    have hz2:=a2.size
    have hz4:=b4.size
    have hzr:=a10.size
    have hlen:=tells_len (vf:=vf) (most:=most) (ps:=scanTo cs i []) q (by omega)
    have hmc:=hmv _ (hsub _ (List.getElem_mem hqp))
    refine(seach_g (n₁:=n₀) (T:=D.T) (t:=X.B.t) (m:=D.tm) vf a8 rfl (by omega) hm2 (by omega) (Nat.le_refl _) hbe2 hbs2 hbx2 hbm2 hst2 rfl htb2 hmm2 hl o' (g.isv _ (hsub _ (List.getElem_mem hqp))) hmc).mono ?_
    rintro e w7 ⟨rfl,lv',hs7,hl7,k7⟩
    refine⟨rfl,a1,a2,a3,a4,a5,a6,a7,lv',by rw[tells_snoc hqp];exact hs7,fun b e=>(hl7 b e).elim (a9 b) fun h=>Nat.le_trans hzr h,a10.trans k7 fun b hb e=>?_⟩
    rcases e with e|e|e
    · exact .inl e
    · exact .inr e
    · have:=a9 b e;omega
  · rintro e w' ⟨rfl,A,cv,w2,a1,a2,a3,a4,a5,a6,a7,lv,a8,a9,a10⟩
    rw[a4,List.take_length] at a8
    exact⟨rfl,lv,w2,a8,a1,(Kp.of b4).then a2,a9,a10⟩
end
end Go.Proofs.YtdbkocfbhpgpkaaGreat
namespace Go.Proofs.YtdbkocfbhpgpkaaGreat
open Go Go.RowKit Go.Shelf
set_option maxRecDepth 100000
set_option maxHeartbeats 4000000
section
variable {X:ST}{D D':SD}{w w':World}{k:Nat}{cs:List NC}{U:Int→Option Us}
theorem open_s(g:GS X D w k cs U):Calls Tryz.prog 45 #[.pointer (some ⟨X.s,0,none⟩)] w fun e w'=>(∃ v,e=.returned v∧OR w' w.heap.size v D.ov)∧Below w.heap.size w w':=by
  have MD:=smade_st g.st
  have OP:=open_g g.st.tb g.st.tr (Nat.le_trans g.tok.ovl (by decide))
  have c13:w.cell? ⟨X.s,13,none⟩=some (.pointer (some ⟨X.B.t,0,none⟩)):=cellD g.st.sb 13
  clear g
  go_enter Tryz.func45,Tryz.ntmps45
  go_wp2_with (first
    | (go_at_call 63;(with_reducible refine MD.mono ?_);rintro e w ⟨rfl,rfl⟩)
    | (go_at_call 124;(with_reducible refine OP.mono ?_);rintro e w1 ⟨⟨v,rfl,o1⟩,b1⟩))
  go_ret
  exact⟨⟨_,rfl,o1⟩,b1⟩
end
end Go.Proofs.YtdbkocfbhpgpkaaGreat
namespace Go.Proofs.YtdbkocfbhpgpkaaGreat
open Go Go.RowKit Go.Shelf
open Go.Ev (PgM PageOk CellsOut rowsOf rowsV rowV rowsOf_len BelowIs)
set_option maxRecDepth 100000
set_option maxHeartbeats 4000000
section
variable {X:ST}{D D':SD}{w w':World}{k:Nat}{cs cs':List NC}{U:Int→Option Us}{S:List (List UInt8)}{M:Nat}
theorem fu_ge(hx:Hi X)(st:StW X D w)(u:Undos X D w U){g:Nat}(e:FU X D w g):X.n0≤g:=by
  rcases e with (e|e|e)|e|e|e|e|⟨t,v,e1,e2⟩
  · rcases e with e|e|e|e|e|e|⟨hn,-⟩
    · rw[e];exact hx.s
    · rw[e];exact hx.j
    · rw[e];exact hx.p
    · rw[e];exact hx.im
    · rw[e];exact hx.d
    · rw[e];exact hx.db
    · exact hn
  · rw[e];exact hx.m
  · exact st.jo.blk g e
  · rw[e];exact hx.t
  · rw[e];exact hx.who
  · rw[e];exact hx.wk
  · exact(st.tr.lt e).2
  · obtain⟨tx,us,-,-,h3⟩:=u.one t v e1
    exact(h3.blk e2).1
theorem GS.up(hx:Hi X)(g:GS X D w k cs U)(m:Mv X D D' w w'):Below X.n0 w w':=
  m.kp.below g.st.dk.base fun b hb e=>by have:=fu_ge hx g.st g.us e;omega
structure PN(D:SD)(i k:Nat):Prop where
  k:k≤2+82 * i
  nx:D.T.next≤1+i
  la:D.T.last≤i
  ov:D.ov.length≤4
structure PJ(X:ST)(w0:World)(Dz D:SD)(cs:List NC)(U:Int→Option Us)(S:List (List UInt8))(i k:Nat)(wr:World):Prop where
  of ::
  g:GS X D wr k cs U
  p:PI D cs U S i
  s:S.length≤i-1
  z:i=0→D.ov=[]
  n:PN D i k
  m:Mv X Dz D w0 wr
section
variable {w0:World}{i:Nat}{Dz:SD}
theorem PJ.below(h:PJ X w0 Dz D cs U S i k w)(b:Below w.heap.size w w'):PJ X w0 Dz D cs U S i k w':=⟨h.g.below b,h.p,h.s,h.z,h.n,h.m.trans (Mv.below b)⟩
theorem PJ.same(h:PJ X w0 Dz D cs U S i k w)(hi:1≤i):PJ X w0 Dz D cs U S (i+1) k w:=⟨h.g,h.p.more (fun _ h=>h) (Nat.le_succ _),by have:=h.s;omega,fun e=>by omega,⟨by have:=h.n.k;omega,by have:=h.n.nx;omega,by have:=h.n.la;omega,h.n.ov⟩,h.m⟩
theorem PJ.begin(hx:Hi X)(h:PJ X w0 Dz D cs U S i k w)(hi:i≤100)(hL:D.ov.length≤3):Calls Tryz.prog 14 #[.pointer (some ⟨X.s,0,none⟩)] w fun e w'=>e=.returned (.tuple #[.int .i64 (D.T.next:Int),.int .i64 0])∧∃ D',PJ X w0 Dz D' cs U S (i+1) k w':=by
  have hn:=h.n
  have h1:=hn.nx
  have h2:=hn.k
  refine(begin_l h.g h.p (by omega) (by omega)).mono ?_
  rintro e w' ⟨rfl,D',g',p',mv,e1,e2,-,e4⟩
  exact⟨rfl,D',g',p'.more (fun _ h=>h) (Nat.le_succ _),by have:=h.s;omega,fun e=>by omega,⟨by omega,by omega,by have:=hn.la;omega,by rw[e4];simp;omega⟩,h.m.trans mv⟩
theorem PJ.put{j tx p kn kc vn vc:Nat}{kA vA:Option Addr}{b:UInt8}{val:List UInt8}(hx:Hi X)(h:PJ X w0 Dz D cs U S i k w)(h1:1≤i)(hi:i≤29)(hl:D.tm.lookup (tx:Int)=some (mk 2 p))(htx:1≤tx)(htn:tx<D.T.next)(hrk:SRd X D w kA [107,b])(hkn:kn=2)(hrv:SRd X D w vA val)(hvn:vn=val.length)(hv:val.length≤85) :
    Calls Tryz.prog 15 #[.pointer (some ⟨X.s,0,none⟩),.int .i64 (tx:Int),.slice kA kn kc,.slice vA vn vc] w fun e w'=>(∃ ec:Int,e=.returned (.int .i64 ec))∧∃ D' cs' U' S' k',PJ X w0 Dz D' cs' U' S' (i+1) k' w':=by
  have hn:=h.n
  have h2:=hn.k
  have hs:=h.s
  refine(put_l (kc:=kc) (vc:=vc) (S:=S++[vkey [107,b] tx]) (M:=i) h.g (h.p.more (fun x hx=>List.mem_append.2 (.inl hx)) (Nat.le_refl _)) (by omega) (by omega) (by simp;omega) (by simp) hl htx htn hrk hkn hrv hvn hv).mono ?_
  rintro e w' ⟨he,D',cs',U',lf,g',p',-⟩
  exact⟨he,D',cs',U',_,_,g',p',by simp;omega,fun e=>by omega,⟨by omega,by rw[lf.T];have:=hn.nx;omega,by rw[lf.T];have:=hn.la;omega,by rw[lf.ov];exact hn.ov⟩,h.m.trans lf.mv⟩
theorem PJ.drop{j tx p kn kc:Nat}{kA:Option Addr}{b:UInt8}(hx:Hi X)(h:PJ X w0 Dz D cs U S i k w)(h1:1≤i)(hi:i≤29)(hl:D.tm.lookup (tx:Int)=some (mk 2 p))(htx:1≤tx)(htn:tx<D.T.next)(hrk:SRd X D w kA [107,b])(hkn:kn=2) :
    Calls Tryz.prog 26 #[.pointer (some ⟨X.s,0,none⟩),.int .i64 (tx:Int),.slice kA kn kc] w fun e w'=>(∃ ec:Int,e=.returned (.int .i64 ec))∧∃ D' cs' U' S' k',PJ X w0 Dz D' cs' U' S' (i+1) k' w':=by
  have hn:=h.n
  have h2:=hn.k
  have hs:=h.s
  refine(drop_l (kc:=kc) (S:=S++[vkey [107,b] tx]) (M:=i) h.g (h.p.more (fun x hx=>List.mem_append.2 (.inl hx)) (Nat.le_refl _)) (by omega) (by omega) (by simp;omega) (by simp) hl htx htn hrk hkn).mono ?_
  rintro e w' ⟨he,D',cs',U',lf,g',p',-⟩
  exact⟨he,D',cs',U',_,_,g',p',by simp;omega,fun e=>by omega,⟨by omega,by rw[lf.T];have:=hn.nx;omega,by rw[lf.T];have:=hn.la;omega,by rw[lf.ov];exact hn.ov⟩,h.m.trans lf.mv⟩
theorem PJ.abort{tx p:Nat}{la lb:List Int}(hx:Hi X)(h:PJ X w0 Dz D cs U S i k w)(h1:1≤i)(hi:i≤29)(hl:D.tm.lookup (tx:Int)=some (mk 2 p))(htx:1≤tx)(htn:tx<D.T.next)(ho:D.ov=la++(tx:Int)::lb)(hna:∀ x∈la,x≠(tx:Int))(hnb:∀ x∈lb,x≠(tx:Int)) :
    Calls Tryz.prog 30 #[.pointer (some ⟨X.s,0,none⟩),.int .i64 (tx:Int)] w fun e w'=>e=.returned (.int .i64 0)∧∃ D' cs' U' k',PJ X w0 Dz D' cs' U' S (i+1) k' w':=by
  have hn:=h.n
  have h2:=hn.k
  have hs:=h.s
  have hov:=hn.ov
  rw[ho] at hov
  simp at hov
  refine(abort_l h.g h.p (by omega) (by omega) (by omega) hl htx htn ho hna hnb).mono ?_
  rintro e w' ⟨rfl,D',cs',g',p',mv,e1,e2,e3⟩
  exact⟨rfl,D',cs',_,_,g',p'.more (fun _ h=>h) (Nat.le_succ _),by omega,fun e=>by omega,⟨by omega,by have:=hn.nx;omega,by have:=hn.la;omega,by rw[e3];simp;omega⟩,h.m.trans mv⟩
theorem PJ.commit{tx p:Nat}{la lb:List Int}(hx:Hi X)(h:PJ X w0 Dz D cs U S i k w)(h1:1≤i)(hi:i≤29)(hl:D.tm.lookup (tx:Int)=some (mk 2 p))(htn:tx<D.T.next)(ho:D.ov=la++(tx:Int)::lb)(hna:∀ x∈la,x≠(tx:Int))(hnb:∀ x∈lb,x≠(tx:Int)) :
    Calls Tryz.prog 18 #[.pointer (some ⟨X.s,0,none⟩),.int .i64 (tx:Int)] w fun e w'=>(∃ n:Nat,e=.returned (.tuple #[.int .i64 (n:Int),.int .i64 0]))∧∃ D' U' k',PJ X w0 Dz D' cs U' S (i+1) k' w':=by
  have hn:=h.n
  have h2:=hn.k
  have hs:=h.s
  have hov:=hn.ov
  rw[ho] at hov
  simp at hov
  refine(commit_l h.g h.p (by omega) hl htn ho hna hnb (by have:=hn.la;omega)).mono ?_
  rintro e w' ⟨he,D',g',p',mv,e1,e2,e3⟩
  exact⟨he,D',_,_,g',p'.more (fun _ h=>h) (Nat.le_succ _),by omega,fun e=>by omega,⟨by omega,by have:=hn.nx;omega,by have:=hn.la;omega,by rw[e3];simp;omega⟩,h.m.trans mv⟩
end
end
section
variable {X:ST}
theorem play_g{A:Option Addr}{n c k0:Nat}{xs:List Int}{w0 w:World}{D0 Dz:SD}{U0:Int→Option Us}(hx:Hi X)(h0:PJ X w0 Dz D0 [] U0 [] 0 k0 w)(hr:RdI w X.n0 A xs)(hn:n=xs.length)(hn30:n≤30)(hxs:∀ x∈xs,-9223372036854775808≤x∧x≤9223372036854775807) :
    Calls Tryz.prog 23 #[.pointer (some ⟨X.s,0,none⟩),.slice A n c] w fun e w'=>e=.returned (.bool true)∧∃ D cs U S k,PJ X w D0 D cs U S n k w'∧Below X.n0 w w':=by
  have HN:=Lib.hid hn
  have HX:=Lib.hid hxs
  have HR:=Lib.hid hr
  have H0:=Lib.hid h0
  have H1:=Lib.hid (show PJ X w D0 D0 [] U0 [] 0 k0 w from⟨h0.g,h0.p,h0.s,h0.z,h0.n,Mv.refl _ _ _⟩)
  clear hn hxs hr
  go_enter Tryz.func23,Tryz.ntmps23
  go_wp2
  go_loopw [5] (fun iv wr=>∃ i D cs U S k,i≤n∧iv=.int .i64 (i:Nat)∧PJ X w D0 D cs U S i k wr) (fun iv _=>n-(RowKit.intOf iv).toNat)
  case atStart=>exact⟨0,D0,[],U0,[],k0,Nat.zero_le _,rfl,H1.out⟩
  case round=>
    obtain⟨i,D,cs,U,S,k,hi,rfl,hj⟩:=hrel
    by_cases hin:i<n
    · obtain⟨b,o,rfl,hbb,hc⟩:=(HR.out.below (H1.out.g.up hx hj.m)).at_ (k:=i) (by rw[← HN.out];exact hin)
      have PI:=pick_any _ (HX.out _ (List.getElem_mem (show i<xs.length by rw[← HN.out];exact hin))) wr
      have OP:=open_s hj.g
      have f1:(i:Int)<(n:Int):=by omega
      have HJ:=Lib.hid hj
      clear hj h0
      go_upto_region 6 with (first
        | (go_at_call 13;(with_reducible refine PI.mono ?_);rintro e wr ⟨⟨nn,hnn,rfl⟩,rfl⟩)
        | (go_at_call 45;(with_reducible refine OP.mono ?_);rintro e w2 ⟨⟨v,rfl,o2⟩,b2⟩))
      have j2:=HJ.out.below b2
      obtain⟨Av,cv,hv⟩:=o2.form
      obtain⟨L,hL⟩:∃ L,D.ov.length=L:=⟨_,rfl⟩
      rw[hL] at hv
      subst hv
      have hL4:L≤4:=by rw[← hL];exact j2.n.ov
      obtain⟨m9,hm9⟩:∃ m9,nn % 9=m9:=⟨_,rfl⟩
      have hm9l:m9<9:=by omega
      have e9:(nn:Int) % 9=(m9:Int):=by omega
      have e9':(nn:Int).tmod 9=(m9:Int):=by rw[Int.tmod_eq_emod_of_nonneg (Int.natCast_nonneg _)];omega
      have hi29:i≤29:=by omega
      have HJ2:=Lib.hid j2
      have HL:=Lib.hid hL
      by_cases hL0:L=0
      · subst hL0
        have BG:=PJ.begin hx j2 (by omega) (by omega)
        clear j2 o2 OP e9 e9' hm9 hm9l HX hL4
        go_wp2_with (go_at_call 14;(with_reducible refine BG.mono ?_);rintro e w3 ⟨rfl,D',j3⟩)
        refine⟨⟨i+1,D',cs,U,S,k,by omega,by simp,j3⟩,?_⟩
        simp[RowKit.intOf];omega
      have fL:¬((L:Int)=0):=by omega
      have hi1:1≤i:=by
        refine Nat.pos_of_ne_zero fun e=>hL0 ?_
        rw[← hL,HJ2.out.z e];rfl
      have BG:=Lib.hid (fun(h:L<4)=>PJ.begin hx HJ2.out (by omega) (by have:=HL.out;omega))
      obtain⟨q9,hq9⟩:∃ q9,nn / 9=q9:=⟨_,rfl⟩
      obtain⟨q40,hq40e⟩:∃ q40,nn / 40=q40:=⟨_,rfl⟩
      have hq40:q40<1000003:=by omega
      have e40:(nn:Int).tdiv 40=(q40:Int):=by rw[Int.tdiv_eq_ediv_of_nonneg (Int.natCast_nonneg _)];omega
      have d9:(nn:Int).tdiv 9=(q9:Int):=by rw[Int.tdiv_eq_ediv_of_nonneg (Int.natCast_nonneg _)];omega
      have w9:wrap64 (q9:Int)=(q9:Int):=IntWalk.wrap64_in _ (by omega)
      have w40:wrap64 (q40:Int)=(q40:Int):=IntWalk.wrap64_in _ (by omega)
      obtain⟨j,hje⟩:∃ j,q9 % L=j:=⟨_,rfl⟩
      have hjL:j<L:=by rw[← hje];exact Nat.mod_lt _ (by omega)
      have ej:(q9:Int) % (L:Int)=(j:Int):=by rw[← hje];exact(Int.natCast_emod _ _).symm
      have ej':(q9:Int).tmod (L:Int)=(j:Int):=by rw[Int.tmod_eq_emod_of_nonneg (Int.natCast_nonneg _)];exact ej
      obtain⟨tx,p,la,lb,h1,h2,h3,h4,h5,h6,h7,-⟩:=j2.p.cut j2.g.tok (j:=j) (by rw[hL];exact hjL)
      obtain⟨A',c',ev,rv⟩:=o2.rdI
      rw[hL] at ev
      injection ev with ev1 ev2 ev3
      subst ev1 ev3
      obtain⟨bv,ov,rfl,-,cell⟩:=rv.at_ (k:=j) (by rw[hL];exact hjL)
      rw[h1] at cell
      have jlo:(0:Int)≤(j:Int):=by omega
      have jhi:(j:Int)<(L:Int):=by omega
      clear hje hq9 hq40e o2 rv OP h1 HX hL j2
      by_cases hb:m9=0∧L<4
      · obtain⟨rfl,hlt4⟩:=hb
        have B1:=BG.out hlt4
        rw[show((0:Nat):Int)=0 from rfl] at e9 e9'
        have fL4:(L:Int)<4:=by omega
        go_wp2_with (go_at_call 14;(with_reducible refine B1.mono ?_);rintro e w3 ⟨rfl,D',j3⟩)
        refine⟨⟨i+1,D',cs,U,S,k,by omega,by simp,j3⟩,?_⟩
        simp[RowKit.intOf];omega
      rcases (show m9=0∨m9=8∨m9=5∨m9=6∨m9=7∨m9=1∨m9=2∨m9=3∨m9=4 by omega) with rfl|rfl|rfl|rfl|rfl|h14
      · have fL4:¬((L:Int)<4):=by omega
        rw[show((0:Nat):Int)=0 from rfl] at e9 e9'
        go_wp2
        refine⟨⟨i+1,D,cs,U,S,k,by omega,by simp,HJ2.out.same hi1⟩,?_⟩
        simp[RowKit.intOf];omega
      · rw[show((8:Nat):Int)=8 from rfl] at e9 e9'
        go_wp2
        refine⟨⟨i+1,D,cs,U,S,k,by omega,by simp,HJ2.out.same hi1⟩,?_⟩
        simp[RowKit.intOf];omega
      · rw[show((5:Nat):Int)=5 from rfl] at e9 e9'
        have KY:=key_any q40 hq40 w2
        have DR:=Lib.hid (fun w4 gk ck (b4:Below w2.heap.size w2 w4) (o4:Own w4 w2.heap.size (.slice (some ⟨gk,0,none⟩) 2 ck) [107,UInt8.ofNat (q40 % 9)])=>
          PJ.drop (j:=0) (kc:=ck) (kn:=2) (kA:=some ⟨gk,0,none⟩) hx (HJ2.out.below b4) hi1 hi29 h4 h2 h3 (own_srd HJ2.out.g.st HJ2.out.g.us (Mv.below (X:=X) (D:=D) b4) (.inl rfl) o4 (Nat.le_refl _)) rfl)
        go_upto_region 18 with fail
        clear PI b2 d9 w9 ej ej' jlo jhi cell hjL fL e9 e9' hb hL0 hL4 h2 h3 h4 h5 h6 h7 BG hi1 hq40 hnn hc
        go_wp2_with (first
          | (go_at_call 16;(with_reducible refine KY.mono ?_);rintro e w4 ⟨⟨gk,ck,rfl,o4⟩,b4⟩;have P4:=DR.out w4 gk ck b4 o4)
          | (go_at_call 26;(with_reducible refine P4.mono ?_);rintro e w6 ⟨⟨ec,rfl⟩,D',cs',U',S',k',j6⟩))
        refine⟨⟨i+1,D',cs',U',S',k',by omega,by simp,j6⟩,?_⟩
        simp[RowKit.intOf];omega
      · rw[show((6:Nat):Int)=6 from rfl] at e9 e9'
        have CO:=PJ.commit hx HJ2.out hi1 hi29 h4 h3 h5 h6 h7
        go_upto_region 20 with fail
        clear PI b2 d9 w9 ej ej' jlo jhi cell hjL fL e9 e9' hb hL0 hL4 h2 h3 h4 h5 h6 h7 BG hi1 hq40 hnn hc e40 w40
        go_wp2_with (go_at_call 18;(with_reducible refine CO.mono ?_);rintro e w6 ⟨⟨ec,rfl⟩,D',U',k',j6⟩)
        refine⟨⟨i+1,D',cs,U',S,k',by omega,by simp,j6⟩,?_⟩
        simp[RowKit.intOf];omega
      · rw[show((7:Nat):Int)=7 from rfl] at e9 e9'
        have AB:=PJ.abort hx HJ2.out hi1 hi29 h4 h2 h3 h5 h6 h7
        go_upto_region 24 with fail
        clear PI b2 d9 w9 ej ej' jlo jhi cell hjL fL e9 e9' hb hL0 hL4 h2 h3 h4 h5 h6 h7 BG hi1 hq40 hnn hc e40 w40
        go_wp2_with (go_at_call 30;(with_reducible refine AB.mono ?_);rintro e w6 ⟨rfl,D',cs',U',k',j6⟩)
        refine⟨⟨i+1,D',cs',U',S,k',by omega,by simp,j6⟩,?_⟩
        simp[RowKit.intOf];omega
      · rcases h14 with rfl|rfl|rfl|rfl
        all_goals
          first
            | rw[show((1:Nat):Int)=1 from rfl] at e9 e9'
            | rw[show((2:Nat):Int)=2 from rfl] at e9 e9'
            | rw[show((3:Nat):Int)=3 from rfl] at e9 e9'
            | rw[show((4:Nat):Int)=4 from rfl] at e9 e9'
          go_upto_region 16 with fail
          have KY:=key_any q40 hq40 w2
          have VA:=Lib.hid (fun w4=>value_any nn hnn w4)
          have PU:=Lib.hid (fun w4 w5 gk ck gv cv m val (b4:Below w2.heap.size w2 w4) (o4:Own w4 w2.heap.size (.slice (some ⟨gk,0,none⟩) 2 ck) [107,UInt8.ofNat (q40 % 9)]) (b5:Below w4.heap.size w4 w5) (hl:val.length=m) (h85:m≤85) (o5:Own w5 w4.heap.size (.slice (some ⟨gv,0,none⟩) m cv) val)=>
            have b45:=b4.trans (b5.mono b4.size)
            have mv:=Mv.below (X:=X) (D:=D) b45
            PJ.put (j:=0) (kc:=ck) (vc:=cv) (kn:=2) (vn:=m) (kA:=some ⟨gk,0,none⟩) (vA:=some ⟨gv,0,none⟩) hx (HJ2.out.below b45) hi1 hi29 h4 h2 h3 (own_srd HJ2.out.g.st HJ2.out.g.us mv (.inl rfl) (o4.belowS b5) (Nat.le_refl _)) rfl (own_srd HJ2.out.g.st HJ2.out.g.us mv (.inl rfl) o5 b4.size) hl.symm (by omega))
          clear PI b2 d9 w9 ej ej' jlo jhi cell hjL fL e9 e9' hb hL0 hL4 h2 h3 h4 h5 h6 h7 BG hi1 hq40 hnn hc
          go_wp2_with (first
            | (go_at_call 16;(with_reducible refine KY.mono ?_);rintro e w4 ⟨⟨gk,ck,rfl,o4⟩,b4⟩;have V4:=VA.out w4)
            | (go_at_call 17;(with_reducible refine V4.mono ?_);rintro e w5 ⟨⟨gv,cv,val,m,rfl,hvl,hv85,o5⟩,b5⟩;have P5:=PU.out w4 w5 gk ck gv cv m val b4 o4 b5 hvl hv85 o5)
            | (go_at_call 15;(with_reducible refine P5.mono ?_);rintro e w6 ⟨⟨ec,rfl⟩,D',cs',U',S',k',j6⟩))
          refine⟨⟨i+1,D',cs',U',S',k',by omega,by simp,j6⟩,?_⟩
          simp[RowKit.intOf];omega
    · obtain rfl:i=n:=by omega
      have f0:¬((i:Int)<(i:Int)):=by omega
      have BR:=sbroken_st hj.g.st
      go_wp2_with (go_at_call 43;(with_reducible refine BR.mono ?_);rintro e w3 ⟨rfl,b3⟩)
      go_ret
      have j3:=hj.below b3
      exact⟨rfl,D,cs,U,S,k,j3,H1.out.g.up hx j3.m⟩
end
end Go.Proofs.YtdbkocfbhpgpkaaGreat
