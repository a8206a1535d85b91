/-
  Plain law: the order of versions' keys; the versions of one key; what a transaction's version held.
-/
import Derived.Test.YtdbkocfbhpgpkaaGreatb41
set_option linter.unusedVariables false
set_option linter.unusedSimpArgs false
namespace Go.Proofs.YtdbkocfbhpgpkaaGreat
open Go Go.RowKit Go.Shelf
open Go.Ev (PgM PageOk CellsOut rowsOf rowsV rowV rowsOf_len BelowIs)
set_option maxRecDepth 100000
set_option maxHeartbeats 4000000
theorem rise_cut{lim:Int}:∀ {la lb:List Int} {x a:Int},rise lim a (la++x::lb)=true→rise lim a (la++lb)=true
  | [],[],x,a,h=>rfl
  | [], b :: lb, x, a, h => by
    simp only[List.nil_append,rise,Bool.and_eq_true,decide_eq_true_eq] at h ⊢
    exact⟨by omega,h.2.2.2.1,h.2.2.2.2⟩
  | c :: la, lb, x, a, h => by
    simp only[List.cons_append,rise,Bool.and_eq_true,decide_eq_true_eq] at h ⊢
    exact⟨h.1,h.2.1,rise_cut h.2.2⟩
section
variable {X:ST}{D D':SD}{w w':World}{k:Nat}{cs:List NC}{U:Int→Option Us}
theorem GS.lookOk{tx:Nat}(g:GS X D w k cs U):∃ v,(Instr.lookup 123 (.map (some X.B.wk)) (.int .i64 (tx:Int)) true).run Tryz.prog w=.ok (.tuple #[v,.bool (U (tx:Int)).isSome]) w:=by
  have:=run_lookup_int_ok (P:=Tryz.prog) Tryz.underlying123 Tryz.underlying3 g.st.wk (tx:Int) (zeroFn w)
  have e:(D.wm.lookup (tx:Int)).isSome=(U (tx:Int)).isSome:=by
    cases h:U (tx:Int) with
    | none=>rw[g.us.no h];rfl
    | some us =>
      obtain⟨v,h1,-⟩:=g.us.some h
      rw[h1];rfl
  rw[e] at this
  exact⟨_,this⟩
theorem record_s{kd:UInt8}{tx:Nat}(hkd:kd=2∨kd=3)(g:GS X D w k cs U)(hkb:k≤3700){us:Us}(h:U (tx:Int)=some us)(htx:tx≤1000000) :
    Calls Tryz.prog 73 #[.pointer (some ⟨X.s,0,none⟩),.agg #[.int .u8 (kd.toNat:Int),.int .i64 (tx:Int),.slice none 0 0]] w fun e w'=>e=.returned (.int .i64 0)∧∃ D',GS X D' w' (k+2) cs U∧Lf X D D' w w'∧D'.J.last=D.J.last+1:=by
  obtain⟨f,hf⟩:=g.hd (.inr ⟨_,_,h⟩)
  refine(record_g hkd g.st g.iv (by omega) g.tok hf htx).mono ?_
  rintro e w' ⟨rfl,D1,i1,p1,s1,j1,f1,e1⟩
  exact⟨rfl,D1,⟨s1,i1,g.tok.pv p1,g.us.pv g.st p1,g.ok,g.v1,g.isv,g.len,fun _=>⟨f1,e1⟩⟩,p1.lf,j1⟩
theorem commit_s{tx p:Nat}{la lb:List Int}(g:GS X D w k cs U)(hkb:k≤3600)(hl:D.tm.lookup (tx:Int)=some (mk 2 p))(ho:D.ov=la++(tx:Int)::lb)(hna:∀ x∈la,x≠(tx:Int))(hnb:∀ x∈lb,x≠(tx:Int))(hlast:D.T.last≤900000)(htx:tx≤1000000) :
    Calls Tryz.prog 18 #[.pointer (some ⟨X.s,0,none⟩),.int .i64 (tx:Int)] w fun e w'=>(∃ n:Nat,e=.returned (.tuple #[.int .i64 (n:Int),.int .i64 0])∧∀ us,U (tx:Int)=some us→n=D.J.last+1)∧∃ D',GS X D' w' (k+2) cs (delU U tx)∧Mv X D D' w w'∧D'.T.next=D.T.next∧D'.T.last=D.T.last+1∧D'.tm=mset D.tm (tx:Int) (mk 3 (D.T.last+1))∧D'.ov=la++lb:=by
  have RD:=ready_st g.st hl
  have HL2:=Lib.hid (show la.length+1+lb.length≤16 by have:=g.tok.ovl;rw[ho] at this;simp at this;omega)
  have HRI:=Lib.hid (show rise (D.T.next:Int) 0 (la++lb)=true from rise_cut (ho▸g.tok.ov))
  have HG:=Lib.hid g
  have HL:=Lib.hid hl
  have HO:=Lib.hid ho
  have HNA:=Lib.hid hna
  have HNB:=Lib.hid hnb
  have HLA:=Lib.hid hlast
  have HTX:=Lib.hid htx
  have HK:=Lib.hid hkb
  clear g hl ho hna hnb hlast htx hkb
  have FIN:=Lib.hid (fun(D2:SD) (W3 w4:World) (k2:Nat) (hk2:k2≤k+2) (g3:GS X { D2 with wm:=mdel D2.wm (tx:Int) } W3 k2 cs (delU U tx)) (lf:Lf X D { D2 with wm:=mdel D2.wm (tx:Int) } w W3) (u:Value) (t4:TB w4 X.B.t { D2.T with ov:=u,last:=D2.T.last+1 }) (m4:MapI w4 D2.T.who (mset D2.tm (tx:Int) (mk 3 (D2.T.last+1)))) (o4:OR w4 X.n0 u (la++lb)) (hu:u.ownBlock=D2.T.ov.ownBlock) (k4:Kp (TF X.B.t D2.T) W3 w4)=>show ∃ D',D'.J=D2.J∧GS X D' w4 (k+2) cs (delU U tx)∧Mv X D D' w w4∧D'.T.next=D.T.next∧D'.T.last=D.T.last+1∧D'.tm=mset D.tm (tx:Int) (mk 3 (D.T.last+1))∧D'.ov=la++lb by
    have hT:D2.T=D.T:=lf.T
    have htm:D2.tm=D.tm:=lf.tm
    have hw:D2.T.who=X.who:=g3.st.tw
    obtain⟨g4,mv4⟩:=g3.table (T':={ D2.T with ov:=u,last:=D2.T.last+1 }) (tm':=mset D2.tm (tx:Int) (mk 3 (D2.T.last+1))) (ov':=la++lb) k4 t4 hw (hw▸m4) o4 (fun b e=>.inl (hu▸e)) ⟨by have:=HG.out.tok.n1;show 1≤D2.T.next;rw[hT];exact this,by have:=HG.out.tok.n2;show D2.T.next≤_;rw[hT];exact this,by have:=HL2.out;show(la++lb).length≤16;simp;omega,by show rise (D2.T.next:Int) 0 (la++lb)=true;rw[hT];exact HRI.out⟩
    refine⟨_,?_,g4.mono hk2,lf.mv.trans mv4,by show D2.T.next=D.T.next;rw[hT],by show D2.T.last+1=_;rw[hT],by show mset D2.tm _ _=_;rw[htm,hT],rfl⟩
    rfl)
  cases hu:U (tx:Int) with
  | none =>
    go_enter Tryz.func18,Tryz.ntmps18
    go_upto_region 4 with (go_at_call 67;(with_reducible refine RD.mono ?_);rintro e w2 ⟨rfl,b1⟩)
    have g2:=HG.out.below b1
    have lf2:=(Pv.below (X:=X) (D:=D) b1).lf
    obtain⟨D2,hD2⟩:∃ D2,D=D2:=⟨_,rfl⟩
    obtain⟨v,LK⟩:=g2.lookOk (tx:=tx)
    rw[hu] at LK
    rw[hD2] at g2
    have lf2:Lf X D D2 w w2:=by rw[← hD2];exact lf2
    have m2:=g2.st.wk
    have y14:w2.cell? ⟨X.s,14,none⟩=some (.map (some X.B.wk)):=cellD g2.st.sb 14
    obtain⟨W3,hU,m3,o3,s3,os3,t3,u3⟩:=run_delete_int (P:=Tryz.prog) Tryz.underlying123 Tryz.underlying3 m2 (tx:Int) 0
    have kk:Kp (·=X.B.wk) w2 W3:=⟨os3,t3,u3,Nat.le_of_eq s3.symm,fun k _ hk=>o3 k hk⟩
    obtain⟨g3,lf3⟩:=g2.del kk m3
    have hT:D2.T=D.T:=lf2.T
    have htm:D2.tm=D.tm:=lf2.tm
    have hov:D2.ov=D.ov:=lf2.ov
    have z13:W3.cell? ⟨X.s,13,none⟩=some (.pointer (some ⟨X.B.t,0,none⟩)):=cellD g3.st.sb 13
    have CT:=tcommit_g g3.st.tb (g3.st.tw▸g3.st.tm) (tx:Int) (la:=la) (lb:=lb) (by have h:=g3.st.tr;rw[show({ D2 with wm:=mdel D2.wm (tx:Int) }:SD).ov=D2.ov from rfl,hov,HO.out] at h;exact h) rfl rfl rfl (by have:=HL2.out;omega) HNA.out HNB.out p (by show D2.tm.lookup _=_;rw[htm];exact HL.out) (by show D2.T.last≤_;rw[hT];have:=HLA.out;omega)
    have HG3:=Lib.hid g3
    have HLF:=Lib.hid (lf2.trans lf3)
    have HTT:=Lib.hid (And.intro hT (And.intro htm hov))
    clear m2 m3 o3 s3 os3 t3 u3 kk g3 lf3 hT htm hov g2 lf2
    go_upto_region 10 with fail
    go_upto_region 11 with (go_at_call 74;(with_reducible refine CT.mono ?_);rintro e w4 ⟨rfl,u,t4,m4,o4,ho4,k4⟩)
    obtain⟨D4,j4,g4,r4⟩:=FIN.out D2 W3 w4 k (by omega) HG3.out HLF.out u t4 m4 o4 ho4 k4
    have v10:w4.cell? ⟨X.s,10,none⟩=some (.pointer (some ⟨X.B.j,0,none⟩)):=cellD g4.st.sb 10
    have JL:=jlast_any g4.st.jb
    have HG4:=Lib.hid g4
    have HJ4:=Lib.hid j4
    clear j4
    clear g4 t4 m4 o4 CT hU
    go_wp2_with (go_at_call 75;(with_reducible refine JL.mono ?_);rintro e w5 ⟨rfl,rfl⟩)
    go_ret2
    exact⟨⟨_,rfl,fun _ e=>nomatch e⟩,D4,HG4.out,r4⟩
  | some us =>
    have RC:=Lib.hid (fun w1 (b1:Below w.heap.size w w1)=>record_s (tx:=tx) (kd:=2) (.inl rfl) (HG.out.below b1) (by have:=HK.out;omega) hu HTX.out)
    go_enter Tryz.func18,Tryz.ntmps18
    go_upto_region 4 with (go_at_call 67;(with_reducible refine RD.mono ?_);rintro e w1 ⟨rfl,b1⟩)
    have g1:=HG.out.below b1
    obtain⟨v,LK⟩:=g1.lookOk (tx:=tx)
    rw[hu] at LK
    have x14:w1.cell? ⟨X.s,14,none⟩=some (.map (some X.B.wk)):=cellD g1.st.sb 14
    have R1:=RC.out w1 b1
    rw[show(((2:UInt8)).toNat:Int)=2 from rfl] at R1
    clear g1
    go_upto_region 9 with (go_at_call 73;(with_reducible refine R1.mono ?_);rintro e w2 ⟨rfl,D2,g2,lf1,j2⟩)
    have lf2:Lf X D D2 w w2:=(Pv.below (X:=X) (D:=D) b1).lf.trans lf1
    have HJ2:=Lib.hid j2
    clear j2
    clear LK x14 R1
    have m2:=g2.st.wk
    have y14:w2.cell? ⟨X.s,14,none⟩=some (.map (some X.B.wk)):=cellD g2.st.sb 14
    obtain⟨W3,hU,m3,o3,s3,os3,t3,u3⟩:=run_delete_int (P:=Tryz.prog) Tryz.underlying123 Tryz.underlying3 m2 (tx:Int) 0
    have kk:Kp (·=X.B.wk) w2 W3:=⟨os3,t3,u3,Nat.le_of_eq s3.symm,fun k _ hk=>o3 k hk⟩
    obtain⟨g3,lf3⟩:=g2.del kk m3
    have hT:D2.T=D.T:=lf2.T
    have htm:D2.tm=D.tm:=lf2.tm
    have hov:D2.ov=D.ov:=lf2.ov
    have z13:W3.cell? ⟨X.s,13,none⟩=some (.pointer (some ⟨X.B.t,0,none⟩)):=cellD g3.st.sb 13
    have CT:=tcommit_g g3.st.tb (g3.st.tw▸g3.st.tm) (tx:Int) (la:=la) (lb:=lb) (by have h:=g3.st.tr;rw[show({ D2 with wm:=mdel D2.wm (tx:Int) }:SD).ov=D2.ov from rfl,hov,HO.out] at h;exact h) rfl rfl rfl (by have:=HL2.out;omega) HNA.out HNB.out p (by show D2.tm.lookup _=_;rw[htm];exact HL.out) (by show D2.T.last≤_;rw[hT];have:=HLA.out;omega)
    have HG3:=Lib.hid g3
    have HLF:=Lib.hid (lf2.trans lf3)
    have HTT:=Lib.hid (And.intro hT (And.intro htm hov))
    clear m2 m3 o3 s3 os3 t3 u3 kk g3 lf3 hT htm hov g2 lf2
    go_upto_region 10 with fail
    go_upto_region 11 with (go_at_call 74;(with_reducible refine CT.mono ?_);rintro e w4 ⟨rfl,u,t4,m4,o4,ho4,k4⟩)
    obtain⟨D4,j4,g4,r4⟩:=FIN.out D2 W3 w4 (k+2) (by omega) HG3.out HLF.out u t4 m4 o4 ho4 k4
    have v10:w4.cell? ⟨X.s,10,none⟩=some (.pointer (some ⟨X.B.j,0,none⟩)):=cellD g4.st.sb 10
    have JL:=jlast_any g4.st.jb
    have HG4:=Lib.hid g4
    have HJ4:=Lib.hid j4
    clear j4
    clear g4 t4 m4 o4 CT hU
    go_wp2_with (go_at_call 75;(with_reducible refine JL.mono ?_);rintro e w5 ⟨rfl,rfl⟩)
    go_ret2
    exact⟨⟨_,rfl,fun _ _=>by rw[HJ4.out,HJ2.out]⟩,D4,HG4.out,r4⟩
end
theorem delU_back(U:Int→Option Us)(tx:Nat):delU (backU U tx []) tx=delU U tx:=by
  funext n
  unfold delU backU
  by_cases e:n=(tx:Int)
  · rw[if_pos e,if_pos e]
  · rw[if_neg e,if_neg e]
    cases U (tx:Int) with
    | none=>rfl
    | some us =>
      show popU U tx [] n=U n
      unfold popU;rw[if_neg e]
section
variable {X:ST}{D D':SD}{w w':World}{k:Nat}{cs:List NC}{U:Int→Option Us}
theorem abort_s{tx p N:Nat}{la lb:List Int}{us:Us}{cs':List NC}(g:GS X D w k cs U)(hkb:k+2 * N≤3600)(hl:D.tm.lookup (tx:Int)=some (mk 2 p))(ho:D.ov=la++(tx:Int)::lb)(hna:∀ x∈la,x≠(tx:Int))(hnb:∀ x∈lb,x≠(tx:Int))(htx:tx≤1000000)
    (hU:(U (tx:Int)).getD []=us) (hB:Backs cs us cs') (hN:us.length=N) (hN2:N≤1000) :
    Calls Tryz.prog 30 #[.pointer (some ⟨X.s,0,none⟩),.int .i64 (tx:Int)] w fun e w'=>e=.returned (.int .i64 0)∧∃ D',GS X D' w' (k+2 * N+2) cs' (delU U tx)∧Mv X D D' w w'∧D'.T.next=D.T.next∧D'.T.last=D.T.last∧D'.tm=mset D.tm (tx:Int) (mk 5 0)∧D'.ov=la++lb:=by
  have MD:=smade_st g.st
  have IO:=isOpen_tab g.st.tb (by have:=g.st.tm;rw[← g.st.tw] at this;exact this) (tx:Int) p hl
  have BR:=Lib.hid (fun w1 (b1:Below w.heap.size w w1)=>sbroken_st (g.st.below b1))
  have UN:=Lib.hid (fun w1 (b1:Below w.heap.size w w1)=>undo_a (tx:=tx) (save:=0) (us0:=[]) (us1:=us) (g.below b1) hU rfl hB hN hkb hN2 (by omega) htx)
  have c13:w.cell? ⟨X.s,13,none⟩=some (.pointer (some ⟨X.B.t,0,none⟩)):=cellD g.st.sb 13
  have HL2:=Lib.hid (show la.length+1+lb.length≤16 by have:=g.tok.ovl;rw[ho] at this;simp at this;omega)
  have HRI:=Lib.hid (show rise (D.T.next:Int) 0 (la++lb)=true from rise_cut (ho▸g.tok.ov))
  have HG:=Lib.hid g
  have HL:=Lib.hid hl
  have HO:=Lib.hid ho
  have HNA:=Lib.hid hna
  have HNB:=Lib.hid hnb
  have HTX:=Lib.hid htx
  have HK:=Lib.hid hkb
  clear g hl ho hna hnb htx hkb hU hB hN
  have FIN:=Lib.hid (fun(D2:SD) (W3 w4:World) (k2:Nat) (hk2:k2≤k+2 * N+2) (g3:GS X { D2 with wm:=mdel D2.wm (tx:Int) } W3 k2 cs' (delU U tx)) (lf:Lf X D { D2 with wm:=mdel D2.wm (tx:Int) } w W3) (u:Value) (t4:TB w4 X.B.t { D2.T with ov:=u }) (m4:MapI w4 D2.T.who (mset D2.tm (tx:Int) (mk 5 0))) (o4:OR w4 X.n0 u (la++lb)) (hu:u.ownBlock=D2.T.ov.ownBlock) (k4:Kp (TF X.B.t D2.T) W3 w4)=>show ∃ D',GS X D' w4 (k+2 * N+2) cs' (delU U tx)∧Mv X D D' w w4∧D'.T.next=D.T.next∧D'.T.last=D.T.last∧D'.tm=mset D.tm (tx:Int) (mk 5 0)∧D'.ov=la++lb by
    have hT:D2.T=D.T:=lf.T
    have htm:D2.tm=D.tm:=lf.tm
    have hw:D2.T.who=X.who:=g3.st.tw
    obtain⟨g4,mv4⟩:=g3.table (T':={ D2.T with ov:=u }) (tm':=mset D2.tm (tx:Int) (mk 5 0)) (ov':=la++lb) k4 t4 hw (hw▸m4) o4 (fun b e=>.inl (hu▸e)) ⟨by have:=HG.out.tok.n1;show 1≤D2.T.next;rw[hT];exact this,by have:=HG.out.tok.n2;show D2.T.next≤_;rw[hT];exact this,by have:=HL2.out;show(la++lb).length≤16;simp;omega,by show rise (D2.T.next:Int) 0 (la++lb)=true;rw[hT];exact HRI.out⟩
    exact⟨_,g4.mono hk2,lf.mv.trans mv4,by show D2.T.next=D.T.next;rw[hT],by show D2.T.last=_;rw[hT],by show mset D2.tm _ _=_;rw[htm],rfl⟩)
  go_enter Tryz.func30,Tryz.ntmps30
  go_upto_region 8 with (first
    | (go_at_call 63;(with_reducible refine MD.mono ?_);rintro e w ⟨rfl,rfl⟩)
    | (go_at_call 84;(with_reducible refine IO.mono ?_);rintro e w1 ⟨rfl,b1⟩;have BR1:=BR.out w1 b1)
    | (go_at_call 43;(with_reducible refine BR1.mono ?_);rintro e w1' ⟨rfl,b1'⟩;have U1:=UN.out w1' (b1.trans (b1'.mono b1.size));rw[show((0:Nat):Int)=0 from rfl] at U1)
    | (go_at_call 82;(with_reducible refine U1.mono ?_);rintro e w2 ⟨rfl,D1,lf1,g1⟩))
  have lf01:Lf X D D1 _ w2:=((Pv.below (X:=X) (D:=D) b1).lf.trans (Pv.below b1').lf).trans lf1
  obtain⟨v,LK⟩:=g1.lookOk (tx:=tx)
  have x14:w2.cell? ⟨X.s,14,none⟩=some (.map (some X.B.wk)):=cellD g1.st.sb 14
  have HG1:=Lib.hid g1
  have HLF1:=Lib.hid lf01
  clear g1 lf01 lf1 U1 BR1 MD IO b1 b1' c13
  cases hu:backU U tx [] (tx:Int) with
  | none =>
    rw[hu] at LK
    obtain⟨D2,hD2⟩:∃ D2,D1=D2:=⟨_,rfl⟩
    have g2:=HG1.out
    rw[hD2] at g2
    have lf2:=HLF1.out
    rw[hD2] at lf2
    have m2:=g2.st.wk
    have y14:w2.cell? ⟨X.s,14,none⟩=some (.map (some X.B.wk)):=cellD g2.st.sb 14
    obtain⟨W3,hU,m3,o3,s3,os3,t3,u3⟩:=run_delete_int (P:=Tryz.prog) Tryz.underlying123 Tryz.underlying3 m2 (tx:Int) 0
    have kk:Kp (·=X.B.wk) w2 W3:=⟨os3,t3,u3,Nat.le_of_eq s3.symm,fun k _ hk=>o3 k hk⟩
    obtain⟨g3,lf3⟩:=g2.del kk m3
    have hT:D2.T=D.T:=lf2.T
    have htm:D2.tm=D.tm:=lf2.tm
    have hov:D2.ov=D.ov:=lf2.ov
    have z13:W3.cell? ⟨X.s,13,none⟩=some (.pointer (some ⟨X.B.t,0,none⟩)):=cellD g3.st.sb 13
    have CT:=tabort_g g3.st.tb (g3.st.tw▸g3.st.tm) (tx:Int) (la:=la) (lb:=lb) (by have h:=g3.st.tr;rw[show({ D2 with wm:=mdel D2.wm (tx:Int) }:SD).ov=D2.ov from rfl,hov,HO.out] at h;exact h) rfl rfl rfl (by have:=HL2.out;omega) HNA.out HNB.out p (by show D2.tm.lookup _=_;rw[htm];exact HL.out)
    have HG3:=Lib.hid g3
    have HLF:=Lib.hid (lf2.trans lf3)
    have HTT:=Lib.hid (And.intro hT (And.intro htm hov))
    clear m2 m3 o3 s3 os3 t3 u3 kk g3 lf3 hT htm hov g2 lf2
    go_wp2_with (go_at_call 85;(with_reducible refine CT.mono ?_);rintro e w4 ⟨rfl,u,t4,m4,o4,ho4,k4⟩)
    go_ret
    have g3:=HG3.out
    rw[delU_back] at g3
    exact⟨rfl,FIN.out D2 W3 w4 _ (by omega) g3 HLF.out u t4 m4 o4 ho4 k4⟩
  | some us1 =>
    rw[hu] at LK
    have R1:=record_s (tx:=tx) (kd:=3) (.inr rfl) HG1.out (by have:=HK.out;omega) hu HTX.out
    rw[show(((3:UInt8)).toNat:Int)=3 from rfl] at R1
    obtain⟨wq,hwq⟩:∃ wq,w2=wq:=⟨_,rfl⟩
    have HLQ:=Lib.hid HLF1.out
    rw[hwq] at R1 x14 LK ⊢
    go_upto_region 13 with (go_at_call 73;(with_reducible refine R1.mono ?_);rintro e w2 ⟨rfl,D2,g2,lf3,-⟩)
    have lf2:=(hwq▸HLF1.out).trans lf3
    clear LK x14 R1
    have m2:=g2.st.wk
    have y14:w2.cell? ⟨X.s,14,none⟩=some (.map (some X.B.wk)):=cellD g2.st.sb 14
    obtain⟨W3,hU,m3,o3,s3,os3,t3,u3⟩:=run_delete_int (P:=Tryz.prog) Tryz.underlying123 Tryz.underlying3 m2 (tx:Int) 0
    have kk:Kp (·=X.B.wk) w2 W3:=⟨os3,t3,u3,Nat.le_of_eq s3.symm,fun k _ hk=>o3 k hk⟩
    obtain⟨g3,lf3⟩:=g2.del kk m3
    have hT:D2.T=D.T:=lf2.T
    have htm:D2.tm=D.tm:=lf2.tm
    have hov:D2.ov=D.ov:=lf2.ov
    have z13:W3.cell? ⟨X.s,13,none⟩=some (.pointer (some ⟨X.B.t,0,none⟩)):=cellD g3.st.sb 13
    have CT:=tabort_g g3.st.tb (g3.st.tw▸g3.st.tm) (tx:Int) (la:=la) (lb:=lb) (by have h:=g3.st.tr;rw[show({ D2 with wm:=mdel D2.wm (tx:Int) }:SD).ov=D2.ov from rfl,hov,HO.out] at h;exact h) rfl rfl rfl (by have:=HL2.out;omega) HNA.out HNB.out p (by show D2.tm.lookup _=_;rw[htm];exact HL.out)
    have HG3:=Lib.hid g3
    have HLF:=Lib.hid (lf2.trans lf3)
    have HTT:=Lib.hid (And.intro hT (And.intro htm hov))
    clear m2 m3 o3 s3 os3 t3 u3 kk g3 lf3 hT htm hov g2 lf2
    go_wp2_with (go_at_call 85;(with_reducible refine CT.mono ?_);rintro e w4 ⟨rfl,u,t4,m4,o4,ho4,k4⟩)
    go_ret
    have g3:=HG3.out
    rw[delU_back] at g3
    exact⟨rfl,FIN.out D2 W3 w4 _ (by omega) g3 HLF.out u t4 m4 o4 ho4 k4⟩
end
end Go.Proofs.YtdbkocfbhpgpkaaGreat
namespace Go.Proofs.YtdbkocfbhpgpkaaGreat
open Go Go.RowKit Go.Shelf
set_option maxRecDepth 100000
set_option maxHeartbeats 4000000
theorem own_pop{w:World}{B n c:Nat}{A:Option Addr}{l:List UInt8}{x:UInt8}(h:Own w B (.slice A (n+1) c) (l++[x]))(hn:n=l.length:=by rfl):Own w B (.slice A n c) l:=by
  rcases h.2 with⟨e1,h0⟩|⟨g,cap,cur,e1,hb,hg,h1,h2,h3,h4⟩
  · cases e1
  · injection e1 with e1 e2 e3
    subst e1 e3
    refine⟨by simp,.inr ⟨g,c,cur,by rw[hn],hb,hg,by simp at h1;omega,h2,h3,?_⟩⟩
    have:=congrArg (List.take (l.length * 1)) h4
    rw[List.take_take] at this
    simp at this
    simpa[Nat.min_eq_left (Nat.le_succ _)] using this
theorem part_g(A:Option Addr)(m c n:Nat)(k:List UInt8)(w:World)(hr:Rd w w.heap.size A (vkey k n))(hm:m=(vkey k n).length)(h1:1≤k.length)(h2:k.length≤128)(hn:n≤4611686018427387904) :
    Calls Tryz.prog 90 #[.slice A m c] w fun e w'=>(∃ B d,e=.returned (.tuple #[.slice B k.length d,.int .i64 (n:Int),.bool true])∧Own w' w.heap.size (.slice B k.length d) k)∧Below w.heap.size w w':=by
  obtain⟨T,hT⟩:∃ T,(txt k 0).length=T:=⟨_,rfl⟩
  have el:=esc_len k
  have hT1:T≤300:=by rw[← hT,txt_len];omega
  have hmT:m=T+8:=by rw[hm];unfold vkey;rw[List.length_append,le_len,hT]
  have hlv:(vkey k n).length=T+8:=by unfold vkey;rw[List.length_append,le_len,hT]
  have U:=u64_any A c m T (vkey k n) w hr hm (by omega) (by omega)
  have hs:sub (vkey k n) T 8=le 8 (vnum n):=by unfold sub vkey;rw[← hT,List.drop_left];exact List.take_of_length_le (by rw[le_len];exact Nat.le_refl _)
  have hle:leN (le 8 (vnum n))=vnum n:=leN_le8 (by have:=vnum_le n;omega)
  rw[hs,hle] at U
  have HN:=Lib.hid hn
  have HT:=Lib.hid hT
  have HM:=Lib.hid hm
  have H1:=Lib.hid h1
  have H2:=Lib.hid h2
  have f0:wrap64 ((m:Int)-8)=(T:Int):=by rw[IntWalk.wrap64_in _ (by omega)];omega
  have HMT:=Lib.hid hmT
  clear hs hle hlv el hm hT h1 h2 hn hmT
  go_enter Tryz.func90,Tryz.ntmps90
  go_wp2_with (go_at_call 188;(with_reducible refine U.mono ?_);rintro e w1 ⟨rfl,rfl⟩)
  go_loopw [8,9] (fun v i wr=>∃ j:Nat,j≤k.length+1∧i=.int .i64 (epos k j:Nat)∧Own wr w1.heap.size v ((k++[0]).take j)∧Below w1.heap.size w1 wr) (fun _ i _=>T-(intOf i).toNat)
  case atStart=>exact⟨0,Nat.zero_le _,by rw[epos_zero];rfl,by simpa using Own.nil _ _,Below.refl _ _⟩
  case round=>
    obtain⟨j,hj,rfl,hown,hb⟩:=hrel
    have hz:=hb.size
    have hend:=epos_end k 0
    rw[HT.out] at hend
    have h2:=H2.out
    by_cases hlt:j<k.length+1
    · obtain⟨ha,hstep,hpos⟩:=epos_at k 0 j (by simpa using hlt)
      rw[HT.out] at hpos
      obtain⟨x,hx⟩:∃ x,(k++[(0:UInt8)])[j]'(by simpa using hlt)=x:=⟨_,rfl⟩
      rw[hx] at ha hstep
      obtain⟨E,hE⟩:∃ E,epos k j=E:=⟨_,rfl⟩
      rw[hE] at ha hstep hpos ⊢
      have hEv:E<(vkey k n).length:=by rw[← HM.out,HMT.out];omega
      obtain⟨b',o',rfl,hb',hc'⟩:=(hr.below hb).at_ hEv
      have hxe:(vkey k n)[E]=x:=by
        have:(vkey k n)[E]? = some x:=by unfold vkey;rw[List.getElem?_append_left (by rw[HT.out];omega)];exact ha
        rw[List.getElem?_eq_getElem hEv] at this
        injection this
      rw[hxe] at hc'
      have hsn:(k++[(0:UInt8)]).take (j+1)=(k++[0]).take j++[x]:=by rw[List.take_succ_eq_append_getElem (by simpa using hlt),hx]
      have hlj:((k++[(0:UInt8)]).take j).length≤200:=by simp;omega
      have f1:(E:Int)<(T:Int):=by omega
      have f2:(E:Int)<(m:Int):=by have:=HMT.out;omega
      have HH:=Lib.hid hstep
      have HS:=Lib.hid hsn
      have HL:=Lib.hid hlj
      have HP:=Lib.hid hpos
      have HX:=Lib.hid hx
      have HXE:=Lib.hid hxe
      have HEv:=Lib.hid hEv
      clear hstep hsn hlj hpos hx hxe ha hE
      clear hend f0 U h2
      go_wp2_with (at_builtin;refine apB rfl (.tmp 29) (.tmp 34) rfl w1.heap.size _ _ rfl (hown.alloc _) _ _ 1 1 [x] rfl rfl (Rd.one _ _) ?c1 ?c2 ?_)
      case c1=>have:=HL.out;simp only[List.length_cons,List.length_nil];omega
      case c2=>simp;omega
      intro v' w2 hown2 hb2 _ _
      have hown2':=hown2.cast (m:=(k++[0]).take (j+1)) HS.out.symm
      have hbb2:=(hb.alloc hz _).trans hb2
      obtain⟨b2,o2,e2,hb2',hc2⟩:=(hr.below hbb2).at_ HEv.out
      injection e2 with e2
      injection e2 with e2 e3
      subst e2 e3
      rw[HXE.out] at hc2
      have hE3:E≤300:=by have:=HP.out;omega
      clear hown hown2 hb2 hc'
      by_cases hx0:x=0
      · subst hx0
        go_wp2
        refine⟨⟨j+1,by omega,?_,hown2',hbb2⟩,?_⟩
        · rw[HH.out,if_pos rfl];go_num
        · have:=HP.out;simp[intOf];omega
      · have hxn:¬(x.toNat=0):=fun e=>hx0 (by rw[← UInt8.toNat_inj];exact e)
        have hxi:¬((x.toNat:Int)=0):=by omega
        go_wp2
        refine⟨⟨j+1,by omega,?_,hown2',hbb2⟩,?_⟩
        · rw[HH.out,if_neg hx0];go_num
        · have:=HP.out;simp[intOf];omega
    · obtain rfl:j=k.length+1:=by omega
      rw[hend]
      have hfull:(k++[(0:UInt8)]).take (k.length+1)=k++[0]:=List.take_of_length_le (by simp)
      rw[hfull] at hown
      obtain⟨A1,c1,rfl,hc1,-,r1⟩:=hown.sl (n:=k.length+1) (by simp)
      have g6:k.length≤c1:=by omega
      have op:=own_pop hown
      have r1k:Rd wr wr.heap.size A1 k:=by have:=r1.take k.length;rwa[List.take_left] at this
      obtain⟨b1,o1,rfl,hb1,-⟩:=r1.at_ (k:=0) (by simp)
      have VB:=vnum_back n (by have:=HN.out;omega) wr
      have JN:=join_any (some ⟨b1,o1,none⟩) k.length c1 n k wr r1k rfl H1.out H2.out HN.out
      have hrb:=(hr.below hb).more hz
      have h1:=H1.out
      have h2':=H2.out
      have g0:¬((T:Int)<(T:Int)):=by omega
      have g1:¬((k.length:Int)+1=0):=by omega
      have g2:decide ((4611686018427387904:Int)<(n:Int))=false:=by have:=HN.out;simp;omega
      have g3:IntKind.u64.wrap (18446744073709551615-(18446744073709551615-(n:Int)))=(n:Int):=by have:=HN.out;rw[IntKind.wrap_u64];omega
      have g4:IntKind.i64.wrap (n:Int)=(n:Int):=by have:=HN.out;rw[IntKind.wrap_i64];omega
      have g4':wrap64 (n:Int)=(n:Int):=IntWalk.wrap64_in _ (by have:=HN.out;omega)
      have g5:wrap64 ((k.length:Int)+1-1)=(k.length:Int):=by rw[IntWalk.wrap64_in _ (by omega)];omega
      clear hend f0 U hfull hown hj hlt
      go_upto_region 16 with (go_at_call 189;(with_reducible refine VB.mono ?_);rintro e w2 ⟨rfl,rfl⟩)
      go_wp2_with (first
        | (go_at_call 165;(with_reducible refine JN.mono ?_);rintro e w3 ⟨⟨u,rfl,o3⟩,b3⟩;obtain⟨A3,c3,rfl,-,-,r3⟩:=o3.sl HM.out.symm;have OS:=osame_any A3 A c3 c m m (vkey k n) (vkey k n) w3 r3 (hrb.belowS b3) HM.out HM.out;rw[decide_eq_true rfl] at OS)
        | (go_at_call 97;(with_reducible refine OS.mono ?_);rintro e w4 ⟨rfl,rfl⟩))
      go_ret3
      exact⟨⟨_,_,rfl,op.belowS b3⟩,hb.trans (b3.mono hz)⟩
end Go.Proofs.YtdbkocfbhpgpkaaGreat
namespace Go.Proofs.YtdbkocfbhpgpkaaGreat
open Go Go.RowKit Go.Shelf
open Go.Ev (PgM PageOk CellsOut rowsOf rowsV rowV rowsOf_len BelowIs)
set_option maxRecDepth 100000
set_option maxHeartbeats 4000000
theorem esc_inj:∀ {k k':List UInt8},esc k=esc k'→k=k'
  | [],[],_=>rfl
  | [], c :: k', h => by
    have this:0=(esc1 c).length+(esc k').length:=by
      have:=congrArg List.length h
      rw[show esc (c::k')=esc1 c++esc k' from rfl,List.length_append] at this
      exact this
    have h1:=esc1_pos c
    split at h1<;>omega
  | c :: k, [], h => by
    have this:(esc1 c).length+(esc k).length=0:=by
      have:=congrArg List.length h
      rw[show esc (c::k)=esc1 c++esc k from rfl,List.length_append] at this
      exact this
    have h1:=esc1_pos c
    split at h1<;>omega
  | c :: k, c' :: k', h => by
    have h':esc1 c++esc k=esc1 c' ++ esc k':=h
    unfold esc1 at h'
    by_cases e:c=0
    · by_cases e':c'=0
      · rw[if_pos e,if_pos e'] at h'
        simp at h'
        rw[e,e',esc_inj h']
      · rw[if_pos e,if_neg e'] at h'
        simp at h'
        exact absurd h'.1.symm e'
    · by_cases e':c'=0
      · rw[if_neg e,if_pos e'] at h'
        simp at h'
        exact absurd h'.1 e
      · rw[if_neg e,if_neg e'] at h'
        simp at h'
        rw[h'.1,esc_inj h'.2]
theorem vkey_key{k k':List UInt8}{n n':Nat}(h:vkey k n=vkey k' n'):k=k':=by
  unfold vkey at h
  have h1:=(List.append_inj' h (by rw[le_len,le_len])).1
  unfold txt at h1
  exact esc_inj (List.append_cancel_right h1)
open Classical in
noncomputable def kOf(c:NC):List UInt8:=if h:∃ k,∃ n,c.key=vkey k n then h.choose else[]
theorem kOf_eq{c:NC}{k:List UInt8}{n:Nat}(h:c.key=vkey k n):kOf c=k:=by
  have hx:∃ k,∃ n,c.key=vkey k n:=⟨k,n,h⟩
  unfold kOf
  rw[dif_pos hx]
  obtain⟨n',e⟩:=hx.choose_spec
  exact vkey_key (e.symm.trans h)
abbrev Told:=List UInt8×List (List UInt8×List UInt8)
noncomputable def scanStep(vf:Nat→Bool)(most:Nat)(s:Told)(c:NC):Told:=
  if kOf c=s.1∨vf (nOf c)=false then s else
    (kOf c,match valOf c.val with
      | some v=>if s.2.length<most then s.2++[(kOf c,v)] else s.2
      | none=>s.2)
structure SS(w:World)(n₀ bt bl:Nat)(lv:Value)(s:Told):Prop where
  told:∃ A c,w.heap[bt]? = some (.cells #[.slice A s.1.length c] 33 (0,0))∧RdF w n₀ A s.1
  out:∃ cv,w.heap[bl]? = some (.cells #[lv] 50 (0,0))∧w.ownsRow n₀ 68 2 lv s.2.length (cvX cv)∧cv.length=s.2.length∧∀ i (h:i<cv.length) (g:i<s.2.length),cv[i].kn=s.2[i].1.length∧cv[i].vn=s.2[i].2.length∧RdF w n₀ cv[i].ka s.2[i].1∧RdF w n₀ cv[i].va s.2[i].2
def SSF (bt bl:Nat)(lv:Value)(k:Nat):Prop:=k=bt∨k=bl∨lv.ownBlock=some k
theorem SS.kp{S:Nat→Prop}{w w':World}{n₀ bt bl:Nat}{lv:Value}{s:Told}(h:SS w n₀ bt bl lv s)(k:Kp S w w')(h1:¬S bt)(h2:¬S bl)(h3:∀ b,lv.ownBlock=some b→¬S b)(h5:∀ b cur,w.heap[b]? = some (.cells cur 5 (0,0))→¬S b):SS w' n₀ bt bl lv s:=by
  obtain⟨⟨A,c,t1,t2⟩,cv,o1,o2,o3,o4⟩:=h
  refine⟨⟨A,c,k.keep t1 h1,t2.kp k h5⟩,cv,k.keep o1 h2,row_same o2 fun g hg=>?_,o3,fun i hi hg=>?_⟩
  · have hg0:=hg
    rcases o2.2 with⟨e,-⟩|⟨g',cap,cur,e,-,hcur,-⟩
    · rw[e] at hg;cases hg
    · rw[e] at hg;injection hg with hg;dsimp only at hg;subst hg
      exact k.block _ (hlt hcur) (h3 _ hg0)
  · obtain⟨a,b,p,q⟩:=o4 i hi hg
    exact⟨a,b,p.kp k h5,q.kp k h5⟩
theorem SS.below{w w':World}{n₀ bt bl:Nat}{lv:Value}{s:Told}(h:SS w n₀ bt bl lv s)(b:Below w.heap.size w w'):SS w' n₀ bt bl lv s:=h.kp (Kp.of (S:=fun _=>False) b) (fun e=>e) (fun e=>e) (fun _ _ e=>e) (fun _ _ _ e=>e)
theorem u8_cmp(a b:UInt8):(a<b↔a.toNat<b.toNat):=UInt8.lt_iff_toNat_lt
theorem u8_eq{a b:UInt8}(h:a.toNat=b.toNat):a=b:=UInt8.toNat_inj.1 h
theorem cmp_trans:∀ {a b c:List UInt8},Lib.compareBytes a b=-1→Lib.compareBytes b c=-1→Lib.compareBytes a c=-1
  | [],[],c,h,g=>by simp[Lib.compareBytes] at h
  | [],b::bz,[],h,g=>by simp[Lib.compareBytes] at g
  | [],b::bz,c::cz,h,g=>rfl
  | a::az,[],c,h,g=>by simp[Lib.compareBytes] at h
  | a::az,b::bz,[],h,g=>by simp[Lib.compareBytes] at g
  | a :: az, b :: bz, c :: cz, h, g => by
    unfold Lib.compareBytes at h g ⊢
    simp only[u8_cmp] at h g ⊢
    by_cases h1:a.toNat<b.toNat
    · by_cases g1:b.toNat<c.toNat
      · rw[if_pos (by omega)]
      · rw[if_neg g1] at g
        by_cases g2:c.toNat<b.toNat
        · rw[if_pos g2] at g;cases g
        · rw[if_pos (by omega)]
    · rw[if_neg h1] at h
      by_cases h2:b.toNat<a.toNat
      · rw[if_pos h2] at h;cases h
      · rw[if_neg h2] at h
        by_cases g1:b.toNat<c.toNat
        · rw[if_pos (by omega)]
        · rw[if_neg g1] at g
          by_cases g2:c.toNat<b.toNat
          · rw[if_pos g2] at g;cases g
          · rw[if_neg g2] at g
            rw[if_neg (by omega),if_neg (by omega)]
            exact cmp_trans h g
theorem cmp_self(a:List UInt8):Lib.compareBytes a a=0:=(compareBytes_zero a a).2 rfl
theorem cmp_ne{a b:List UInt8}(h:Lib.compareBytes a b=-1):a≠b:=fun e=>by subst e;rw[cmp_self] at h;cases h
theorem rises_at{cs:List NC}(h:Rises cs):∀ {j i:Nat} (hi:i<j) (hj:j<cs.length),Lib.compareBytes cs[i].key cs[j].key=-1
  | 0,i,hi,hj=>absurd hi (Nat.not_lt_zero _)
  | j + 1, i, hi, hj => by
    have h1:=h j hj
    rcases Nat.lt_or_eq_of_le (Nat.le_of_lt_succ hi) with q|q
    · exact cmp_trans (rises_at h q (by omega)) h1
    · subst q;exact h1
theorem rises_inj{cs:List NC}(h:Rises cs){i j:Nat}(hi:i<cs.length)(hj:j<cs.length)(e:cs[i].key=cs[j].key):i=j:=by
  rcases Nat.lt_trichotomy i j with q|q|q
  · exact absurd e (cmp_ne (rises_at h q hj))
  · exact q
  · exact absurd e.symm (cmp_ne (rises_at h q hi))
theorem esc_pre:∀ {k k' a b:List UInt8},esc k++(0::0::a)=esc k' ++ (0::0::b)→k=k'
  | [],[],a,b,_=>rfl
  | [], c :: k', a, b, h => by
    have h:0::0::a=(esc1 c++esc k')++(0::0::b):=h
    unfold esc1 at h
    by_cases e:c=0
    · rw[if_pos e] at h;simp at h
    · rw[if_neg e] at h;simp at h;exact absurd h.1.symm e
  | c :: k, [], a, b, h => by
    have h:(esc1 c++esc k)++(0::0::a)=0::0::b:=h
    unfold esc1 at h
    by_cases e:c=0
    · rw[if_pos e] at h;simp at h
    · rw[if_neg e] at h;simp at h;exact absurd h.1 e
  | c :: k, c' :: k', a, b, h => by
    have h:(esc1 c++esc k)++(0::0::a)=(esc1 c' ++ esc k')++(0::0::b):=h
    unfold esc1 at h
    by_cases e:c=0
    · by_cases e':c'=0
      · rw[if_pos e,if_pos e'] at h
        simp at h
        rw[e,e',esc_pre h]
      · rw[if_pos e,if_neg e'] at h
        simp at h
        exact absurd h.1.symm e'
    · by_cases e':c'=0
      · rw[if_neg e,if_pos e'] at h
        simp at h
        exact absurd h.1 e
      · rw[if_neg e,if_neg e'] at h
        simp at h
        rw[h.1,esc_pre h.2]
theorem between:∀ {p s:List UInt8},0<Lib.compareBytes s (p++[0,0])→Lib.compareBytes s (p++[0,1])<0→∃ t,s=p++(0::0::t)
  | [],[],h1,h2=>by simp[Lib.compareBytes] at h1
  | [], a :: s, h1, h2 => by
    simp only[List.nil_append,Lib.compareBytes,u8_cmp] at h1 h2
    have z0:(0:UInt8).toNat=0:=rfl
    have z1:(1:UInt8).toNat=1:=rfl
    rw[z0] at h1 h2
    by_cases ha:0<a.toNat
    · rw[if_neg (by omega),if_pos ha] at h2;exact absurd h2 (by decide)
    · have ea:a=0:=u8_eq (by omega)
      rw[if_neg (by omega),if_neg ha] at h1 h2
      cases s with
      | nil=>simp[Lib.compareBytes] at h1
      | cons b t =>
        simp only[Lib.compareBytes,u8_cmp] at h1 h2
        rw[z0] at h1
        rw[z1] at h2
        by_cases hb:b.toNat=0
        · exact⟨t,by rw[ea,u8_eq (show b.toNat=(0:UInt8).toNat from hb)];rfl⟩
        · by_cases hb1:1<b.toNat
          · rw[if_neg (by omega),if_pos hb1] at h2;exact absurd h2 (by decide)
          · rw[if_neg (by omega),if_neg hb1] at h2
            cases t with
            | nil=>simp[Lib.compareBytes] at h2
            | cons x t=>simp[Lib.compareBytes] at h2
  | x::p,[],h1,h2=>by simp[Lib.compareBytes] at h1
  | x :: p, a :: s, h1, h2 => by
    simp only[List.cons_append,Lib.compareBytes,u8_cmp] at h1 h2
    by_cases q1:a.toNat<x.toNat
    · rw[if_pos q1] at h1;exact absurd h1 (by decide)
    · rw[if_neg q1] at h1 h2
      by_cases q2:x.toNat<a.toNat
      · rw[if_pos q2] at h2;exact absurd h2 (by decide)
      · rw[if_neg q2] at h1 h2
        obtain⟨t,e⟩:=between h1 h2
        exact⟨t,by rw[e,u8_eq (show a.toNat=x.toNat by omega)];rfl⟩
theorem cmp_app:∀ (p a b:List UInt8),Lib.compareBytes (p++a) (p++b)=Lib.compareBytes a b
  | [],a,b=>rfl
  | x::p,a,b=>by simp[Lib.compareBytes,cmp_app p a b]
theorem vkey_lo(k:List UInt8)(n:Nat):0<Lib.compareBytes (vkey k n) (txt k 0):=by
  have hl:(le 8 (vnum n)).length=8:=le_len _ _
  have e:txt k 0=txt k 0++[]:=(List.append_nil _).symm
  unfold vkey
  rw[e,List.append_assoc,cmp_app]
  generalize le 8 (vnum n)=l at hl
  cases l with
  | nil=>simp at hl
  | cons a l=>simp[Lib.compareBytes]
theorem vkey_hi(k:List UInt8)(n:Nat):Lib.compareBytes (vkey k n) (txt k 1)<0:=by
  unfold vkey txt
  rw[List.append_assoc,cmp_app]
  show Lib.compareBytes (0::0::(le 8 (vnum n))) [0,1] < 0
  simp[Lib.compareBytes]
section
variable {cs:List NC}
theorem takeWhile_p{α:Type}(p:α→Bool):∀ {l:List α} {c:α},c∈l.takeWhile p→p c=true
  | [],c,h=>by simp at h
  | a :: l, c, h => by
    by_cases e:p a=true
    · simp only[List.takeWhile,e] at h
      rcases List.mem_cons.1 h with q|q
      · rw[q];exact e
      · exact takeWhile_p p q
    · simp only[List.takeWhile,Bool.eq_false_iff.2 e] at h
      simp at h
open Classical in
theorem scan_in{i:Nat}{key:List UInt8}{c:NC}(hr:Rises cs)(hi:BelowIs cs (txt key 0) i)(hv:∀ c∈cs,IsV c)(hc:c∈scanTo cs i (txt key 1)):c∈cs∧∃ n,c.key=vkey key n∧n≤4611686018427387904:=by
  have hd:c∈cs.drop i:=List.takeWhile_subset _ hc
  have hcs:=List.mem_of_mem_drop hd
  refine⟨hcs,?_⟩
  have h2:Lib.compareBytes c.key (txt key 1)<0:=by
    have:=takeWhile_p _ hc
    have:=of_decide_eq_true this
    rcases this with e|e
    · exact absurd e (by unfold txt;simp)
    · exact e
  obtain⟨j,hj,e⟩:=List.getElem_of_mem hd
  rw[List.getElem_drop] at e
  have hjl:i+j<cs.length:=by rw[List.length_drop] at hj;omega
  have h1:0<Lib.compareBytes c.key (txt key 0):=by
    have hb:=hi.2.2 (by omega)
    rcases Nat.eq_zero_or_pos j with q|q
    · subst q;rw[← e];exact hb
    · have:=rises_at hr (show i<i+j by omega) hjl
      rw[e] at this
      have hb2:Lib.compareBytes (txt key 0) cs[i].key=-1:=by rw[cmp_swap];rcases cmp_val cs[i].key (txt key 0) with v | v | v<;>omega
      have:=cmp_trans hb2 this
      rw[cmp_swap];omega
  obtain⟨t,et⟩:=between (p:=esc key) h1 h2
  obtain⟨k',n,ek,-,-,hn⟩:=hv c hcs
  have:k'=key:=esc_pre (a:=le 8 (vnum n)) (b:=t) (by rw[← et,ek];unfold vkey txt;simp)
  subst this
  exact⟨n,ek,hn⟩
theorem mem_takeWhile_at{α:Type}(p:α→Bool):∀ (l:List α) (j:Nat) (h:j<l.length),(∀ q (g:q<l.length),q≤j→p l[q]=true)→l[j]∈l.takeWhile p
  | [],j,h,_=>by simp at h
  | a :: l, 0, h, hp => by
    have:=hp 0 h (Nat.le_refl _)
    simp at this
    simp[List.takeWhile,this]
  | a :: l, j + 1, h, hp => by
    have h0:=hp 0 (by simp) (Nat.zero_le _)
    simp at h0
    have:=mem_takeWhile_at p l j (by simpa using h) (fun q g hq=>by have:=hp (q+1) (by simpa using g) (by omega);simpa using this)
    simp only[List.takeWhile,h0,List.getElem_cons_succ]
    exact List.mem_cons_of_mem _ this
open Classical in
theorem scan_has{i n:Nat}{key:List UInt8}{c:NC}(hr:Rises cs)(hi:BelowIs cs (txt key 0) i)(hc:c∈cs)(hk:c.key=vkey key n):c∈scanTo cs i (txt key 1):=by
  obtain⟨j,hj,rfl⟩:=List.getElem_of_mem hc
  have hij:i≤j:=by
    refine Classical.byContradiction fun h=>?_
    have:=hi.2.1 j hj (by omega)
    rw[hk] at this
    have:=vkey_lo key n
    omega
  have hd:j-i<(cs.drop i).length:=by rw[List.length_drop];omega
  have e:(cs.drop i)[j-i]=cs[j]:=by
    rw[List.getElem_drop];congr 1;omega
  unfold scanTo
  rw[← e]
  refine mem_takeWhile_at _ _ _ hd fun q g hq=>?_
  rw[List.getElem_drop]
  refine decide_eq_true (.inr ?_)
  have hx:=vkey_hi key n
  rcases Nat.lt_or_eq_of_le (show i+q≤j by omega) with h|h
  · have h1:=rises_at hr h hj
    rw[hk] at h1
    have h2:Lib.compareBytes (vkey key n) (txt key 1)=-1:=by rcases cmp_val (vkey key n) (txt key 1) with v | v | v<;>omega
    have:=cmp_trans h1 h2
    omega
  · have:cs[i+q]=cs[j]:=by congr 1
    rw[this,hk];exact hx
theorem was_none{tx:Nat}{ps:List NC}(h:∀ c∈ps,nOf c≠tx):∀ q,q≤ps.length→wasOf tx (ps.take q)=[]
  | 0,_=>rfl
  | q + 1, hq => by
    rw[wasOf_snoc (show q<ps.length from hq),if_neg (h _ (List.getElem_mem _))]
    exact was_none h q (by omega)
theorem was_one{tx:Nat}{ps:List NC}{c0:NC}(h:∀ c∈ps,nOf c=tx→c=c0):∀ q,q≤ps.length→wasOf tx (ps.take q)=[]∧(∀ c∈ps.take q,nOf c≠tx)∨wasOf tx (ps.take q)=c0.val
  | 0,_=>.inl ⟨rfl,fun c h=>by simp at h⟩
  | q + 1, hq => by
    have hq':q<ps.length:=hq
    rw[wasOf_snoc hq']
    by_cases e:nOf ps[q]=tx
    · rw[if_pos e,h _ (List.getElem_mem _) e]
      exact .inr rfl
    · rw[if_neg e]
      rcases was_one h q (by omega) with⟨a,b⟩|a
      · refine .inl ⟨a,fun c hc=>?_⟩
        rw[List.take_succ_eq_append_getElem hq'] at hc
        rcases List.mem_append.1 hc with hc|hc
        · exact b c hc
        · simp at hc;subst hc;exact e
      · exact .inr a
theorem was_key{i tx:Nat}{key:List UInt8}(hr:Rises cs)(hi:BelowIs cs (txt key 0) i)(hv:∀ c∈cs,IsV c)(htx:tx≤1000000) :
    ((∀ c∈cs,c.key≠vkey key tx)∧wasOf tx (scanTo cs i (txt key 1))=[])∨∃ c∈cs,c.key=vkey key tx∧wasOf tx (scanTo cs i (txt key 1))=c.val:=by
  have num:∀ c∈scanTo cs i (txt key 1),nOf c=tx→c.key=vkey key tx:=fun c hc e=>by
    obtain⟨-,n,ek,hn⟩:=scan_in hr hi hv hc
    rw[nOf_eq ek hn] at e
    rw[ek,e]
  by_cases hx:∃ c∈cs,c.key=vkey key tx
  · obtain⟨c0,h0,e0⟩:=hx
    refine .inr ⟨c0,h0,e0,?_⟩
    have hs:=scan_has hr hi h0 e0
    have one:=was_one (tx:=tx) (ps:=scanTo cs i (txt key 1)) (c0:=c0) (fun c hc e=>by
      obtain⟨j,hj,rfl⟩:=List.getElem_of_mem (scan_in hr hi hv hc).1
      obtain⟨j0,hj0,rfl⟩:=List.getElem_of_mem h0
      have:j=j0:=rises_inj hr hj hj0 ((num _ hc e).trans e0.symm)
      subst this;rfl) _ (Nat.le_refl _)
    rw[List.take_length] at one
    rcases one with⟨-,b⟩|a
    · exact absurd (nOf_eq e0 (by omega)) (b c0 hs)
    · exact a
  · have hx:∀ c∈cs,c.key≠vkey key tx:=fun c hc e=>hx ⟨c,hc,e⟩
    refine .inl ⟨hx,?_⟩
    have:=was_none (tx:=tx) (ps:=scanTo cs i (txt key 1)) (fun c hc e=>hx c (scan_in hr hi hv hc).1 (num c hc e)) _ (Nat.le_refl _)
    rwa[List.take_length] at this
end
end Go.Proofs.YtdbkocfbhpgpkaaGreat
