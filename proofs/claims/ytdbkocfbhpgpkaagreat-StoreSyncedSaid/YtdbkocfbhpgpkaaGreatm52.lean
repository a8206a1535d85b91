/-
  The law StoreSynced: it returns true.
-/
import Derived.Test.YtdbkocfbhpgpkaaGreatm44
import Derived.Test.YtdbkocfbhpgpkaaGreatm51
set_option linter.unusedVariables false
set_option linter.unusedSimpArgs false
namespace Go.Proofs.YtdbkocfbhpgpkaaGreat
open Go Go.RowKit Go.Shelf
open Go.Ev (PgM PageOk CellsOut BelowIs)
set_option maxRecDepth 100000
set_option maxHeartbeats 4000000
theorem ld_start{X:ST}{P:PD}(h1:P.Fine)(h2:P.ws=[])(h3:P.bs.length=142){st:Nat}(h4:P.bs[63]? = some (sealed (pgL 1 0 []) st)):LD X 0 (Dini X.s X.who P) [] where
  held:=.inl ⟨rfl,rfl,rfl,st,h4⟩
  cs:=cs_nil
  next:=rfl
  tl:=rfl
  tm:=fun n a b=>by omega
  ov:=rfl
  wm:=rfl
  jf:=rfl
  jb:=rfl
  jp:=(by decide:(0:Nat)<60)
  jc1:=(by decide:(1:Nat)≤1)
  jc:=(by decide:1+need 0≤1+2 * 0)
  ju:=(by decide:0+need 0≤2 * 0)
  jw:=Nat.zero_le _
  jl:=rfl
  js:=Nat.le_refl _
  fine:=h1
  ws:=h2
  pl:=h3
  base:=rfl
  wal:=rfl
  cnt:=by show 2≤_;omega
  lg:=rfl
  ep:=rfl
  gen:=(by decide:(1:Nat)≤1+0)
  asked:=Nat.zero_le _
theorem pending_st{X:ST}{D:SD}{w:World}(h:StW X D w)(hw:D.P.ws=[]):Calls Tryz.prog 21 #[.pointer (some ⟨X.B.d,0,none⟩)] w fun e w'=>e=.returned (.int .i64 0)∧w'=w:=by
  obtain⟨A,c,e⟩:=h.dk.pend.form
  have hb:=h.dk.box
  rw[e,hw] at hb
  exact pending_any (n:=0) hb
theorem law_any(A:Option Addr)(n c:Nat)(xs:List Int)(w:World)(hr:RdI w w.heap.size A xs)(hn:n=xs.length)(hxs:∀ x∈xs,-9223372036854775808≤x∧x≤9223372036854775807) :
    Calls Tryz.prog 3 #[.slice A n c] w fun e w'=>e=.returned (.bool true)∧Below w.heap.size w w':=by
  have RY:=lready_any w
  have HN:=Lib.hid hn
  have HX:=Lib.hid hxs
  clear hn hxs
  go_enter Tryz.func3,Tryz.ntmps3
  go_upto_region 4 with (first
    | (go_at_call 11;(with_reducible refine RY.mono ?_);rintro e w1 ⟨⟨X,P,st0,rfl,h1,hXn,hx,hfi,hws,hpl,hpg⟩,b1⟩;have SY0:Calls Tryz.prog 12 #[.pointer (some ⟨X.s,0,none⟩),.int .i64 0] w1 fun e w'=>e=.returned (.bool true)∧Below w1.heap.size w1 w':=synced_st h1 0)
    | (go_at_call 12;(with_reducible refine SY0.mono ?_);rintro e w2 ⟨rfl,b2⟩))
  have h2:=h1.below b2
  have b12:=b1.trans (b2.mono b1.size)
  have L0:=ld_start (X:=X) hfi hws hpl hpg
  clear SY0 h1 b1 b2 RY hfi hws hpl hpg
  go_wp2
  go_loopw [6,7] (fun la iv wr=>∃ (i:Nat) (D:SD) (cs:List NC),i≤12∧iv=.int .i64 (i:Nat)∧la=.int .i64 (2 * (i:Int))∧LD X i D cs∧StW X D wr∧Below w.heap.size w wr) (fun _ iv _=>12-(RowKit.intOf iv).toNat)
  case atStart=>exact⟨0,_,_,by decide,rfl,rfl,L0,h2,b12⟩
  case round=>
    obtain⟨i,D,cs,hi12,rfl,rfl,L,st,hb⟩:=hrel
    by_cases hlt:i<n∧i<12
    · obtain⟨hin,hi⟩:=hlt
      obtain⟨b,o,rfl,hbb,hc⟩:=(hr.below hb).at_ (k:=i) (by rw[← HN.out];exact hin)
      have PI:=pick_any _ (HX.out _ (List.getElem_mem (show i<xs.length by rw[← HN.out];exact hin))) wr
      have BG:=lbegin st L hi hx
      have HH:=Lib.hid st
      have HL:=Lib.hid L
      have f1:(i:Int)<(n:Int):=by omega
      have f2:(i:Int)<12:=by omega
      clear st L h2 b12 L0
      go_upto_region 10 with (first
        | (go_at_call 13;(with_reducible refine PI.mono ?_);rintro e wr ⟨⟨nn,hnn,rfl⟩,rfl⟩)
        | (go_at_call 14;(with_reducible refine BG.mono ?_);rintro e w3 ⟨rfl,⟨v3,st3⟩,b3⟩))
      have KY:=key_any nn hnn w3
      have VA:=Lib.hid (fun w4=>value_any nn hnn w4)
      have PU:∀ w4 w5 gk ck gv cv m val,Below w3.heap.size w3 w4→Own w4 w3.heap.size (.slice (some ⟨gk,0,none⟩) 2 ck) [107,UInt8.ofNat (nn % 9)]→Below w4.heap.size w4 w5→val.length=m→m≤85→Own w5 w4.heap.size (.slice (some ⟨gv,0,none⟩) m cv) val→_:=fun w4 w5 gk ck gv cv m val b4 o4 b5 hl h85 o5=>
        lput (ck:=ck) (cv:=cv) ((st3.below b4).below b5) HL.out hi hx rfl hl h85 (own_sg (o4.belowS b5) fun k e=>st3.sg e) (own_sg (o5.down b4.size) fun k e=>st3.sg e)
      have HPU:=Lib.hid PU
      have HST3:=Lib.hid st3
      clear PU st3 PI BG hc f1 f2 hnn
      go_upto_region 11 with (first
        | (go_at_call 16;(with_reducible refine KY.mono ?_);rintro e w4 ⟨⟨gk,ck,rfl,o4⟩,b4⟩;have V4:=VA.out w4)
        | (go_at_call 17;(with_reducible refine V4.mono ?_);rintro e w5 ⟨⟨gv,cv,val,m,rfl,hvl,hv85,o5⟩,b5⟩;have P5:=HPU.out w4 w5 gk ck gv cv m val b4 o4 b5 hvl hv85 o5)
        | (go_at_call 15;(with_reducible refine P5.mono ?_);rintro e w6 ⟨rfl,⟨D2,cs',hP,st6⟩,b6⟩))
      have CO:=lcommit st6 hP HL.out hi hx
      have HBS:=Lib.hid (And.intro b4 (And.intro b5 (And.intro b6 HST3.out.dk.base)))
      clear P5 V4 KY o4 o5 hvl hv85 st6 hP b4 b5 b6
      have f3:¬(2 * (i:Int)+2≤2 * (i:Int)):=by omega
      go_upto_region 14 with (go_at_call 18;(with_reducible refine CO.mono ?_);rintro e w7 ⟨rfl,⟨D3,L3,A3,st7⟩,b7⟩)
      have SY7:Calls Tryz.prog 12 #[.pointer (some ⟨X.s,0,none⟩),.int .i64 (2 * (i:Int)+2)] w7 fun e w'=>e=.returned (.bool false)∧Below w7.heap.size w7 w':=by
        have:=synced_st st7 (2 * i+2)
        rw[decide_eq_false (by have:=A3.js;omega)] at this
        exact this
      have HST7:=Lib.hid st7
      have HL3:=Lib.hid L3
      have HA3:=Lib.hid A3
      have HB7:=Lib.hid b7
      clear st7 L3 A3 b7 CO f3
      go_upto_region 15 with (go_at_call 12;(with_reducible refine SY7.mono ?_);rintro e w8 ⟨rfl,b8⟩)
      have B8:Below w.heap.size w w8:=by
        obtain⟨b4,b5,b6,hb3⟩:=HBS.out
        have z0:=hXn
        have c1:Below w.heap.size w w3:=hb.trans (hXn▸b3)
        have c2:=c1.trans (b4.mono c1.size)
        have c3:=c2.trans (b5.mono c2.size)
        have c4:=c3.trans (hXn▸b6)
        have c5:=c4.trans (hXn▸HB7.out)
        exact c5.trans (b8.mono c5.size)
      have st8:=HST7.out.below b8
      have HB8:=Lib.hid B8
      clear B8 SY7 b8 hb b3
      have HSY:=Lib.hid (fun(w9:World) (D4:SD) (s9:StW X D4 w9) (js:D4.J.synced=2 * i+2)=>(show Calls Tryz.prog 12 #[.pointer (some ⟨X.s,0,none⟩),.int .i64 (2 * (i:Int)+2)] w9 fun e w'=>e=.returned (.bool true)∧Below w9.heap.size w9 w' from by
        have:=synced_st s9 (2 * i+2)
        rw[decide_eq_true (by omega)] at this
        exact this))
      rcases (show nn % 3=0∨nn % 3=1∨nn % 3=2 by omega) with h3|h3|h3
      · have e0:(nn:Int) % 3=0:=by omega
        have e0':(nn:Int).tmod 3=0:=by rw[Int.tmod_eq_emod_of_nonneg (by omega)];omega
        have FL:=lflush st8 HL3.out HA3.out hi hx
        clear st8
        go_upto_region 22 with (first
          | (go_at_call 19;(with_reducible refine FL.mono ?_);rintro e w9 ⟨rfl,⟨D4,L4,js4,st9⟩,b9⟩;have SY9:=HSY.out w9 D4 st9 js4)
          | (go_at_call 12;(with_reducible refine SY9.mono ?_);rintro e w10 ⟨rfl,b10⟩))
        have st10:=st9.below b10
        have B9:=HB8.out.trans (hXn▸b9)
        have B10:=B9.trans (b10.mono B9.size)
        have SYL:Calls Tryz.prog 12 #[.pointer (some ⟨X.s,0,none⟩),.int .i64 (2 * (i:Int)+2+1)] w10 fun e w'=>e=.returned (.bool false)∧Below w10.heap.size w10 w':=by
          have:=synced_st st10 (2 * i+2+1)
          rw[decide_eq_false (by have:=js4;omega)] at this
          exact this
        have HB10:=Lib.hid B10
        have HL4:=Lib.hid L4
        have HS10:=Lib.hid st10
        clear SY9 FL st9 st10 b9 b10 B9 B10 L4
        go_wp2_with (go_at_call 12;(with_reducible refine SYL.mono ?_);rintro e w11 ⟨rfl,b11⟩)
        refine⟨⟨i+1,D4,cs',by omega,rfl,?_,HL4.out,HS10.out.below b11,HB10.out.trans (b11.mono HB10.out.size)⟩,?_⟩
        · show Value.int .i64 (2 * (i:Int)+2)=.int .i64 (2 * ((i+1:Nat):Int))
          congr 1
        · simp[RowKit.intOf];omega
      · have e0:(nn:Int) % 3=1:=by omega
        have e0':(nn:Int).tmod 3=1:=by rw[Int.tmod_eq_emod_of_nonneg (by omega)];omega
        have CK:=lcheck st8 HL3.out HA3.out hi hx
        clear st8
        go_upto_region 22 with (first
          | (go_at_call 20;(with_reducible refine CK.mono ?_);rintro e w9 ⟨rfl,⟨D4,L4,js4,st9⟩,b9⟩;have SY9:=HSY.out w9 D4 st9 js4)
          | (go_at_call 12;(with_reducible refine SY9.mono ?_);rintro e w10 ⟨rfl,b10⟩;have PE:=pending_st (st9.below b10) L4.ws)
          | (go_at_call 21;(with_reducible refine PE.mono ?_);rintro e w10 ⟨rfl,rfl⟩))
        have st10:=st9.below b10
        have B9:=HB8.out.trans (hXn▸b9)
        have B10:=B9.trans (b10.mono B9.size)
        have SYL:Calls Tryz.prog 12 #[.pointer (some ⟨X.s,0,none⟩),.int .i64 (2 * (i:Int)+2+1)] w10 fun e w'=>e=.returned (.bool false)∧Below w10.heap.size w10 w':=by
          have:=synced_st st10 (2 * i+2+1)
          rw[decide_eq_false (by have:=js4;omega)] at this
          exact this
        have HB10:=Lib.hid B10
        have HL4:=Lib.hid L4
        have HS10:=Lib.hid st10
        clear SY9 CK PE st9 st10 b9 b10 B9 B10 L4
        go_wp2_with (go_at_call 12;(with_reducible refine SYL.mono ?_);rintro e w11 ⟨rfl,b11⟩)
        refine⟨⟨i+1,D4,cs',by omega,rfl,?_,HL4.out,HS10.out.below b11,HB10.out.trans (b11.mono HB10.out.size)⟩,?_⟩
        · show Value.int .i64 (2 * (i:Int)+2)=.int .i64 (2 * ((i+1:Nat):Int))
          congr 1
        · simp[RowKit.intOf];omega
      · have e0:(nn:Int) % 3=2:=by omega
        have e0':(nn:Int).tmod 3=2:=by rw[Int.tmod_eq_emod_of_nonneg (by omega)];omega
        have SYL:Calls Tryz.prog 12 #[.pointer (some ⟨X.s,0,none⟩),.int .i64 (2 * (i:Int)+2+1)] w8 fun e w'=>e=.returned (.bool false)∧Below w8.heap.size w8 w':=by
          have:=synced_st st8 (2 * i+2+1)
          rw[decide_eq_false (by have:=HA3.out.js;omega)] at this
          exact this
        have HS10:=Lib.hid st8
        clear st8
        go_wp2_with (go_at_call 12;(with_reducible refine SYL.mono ?_);rintro e w11 ⟨rfl,b11⟩)
        refine⟨⟨i+1,D3,cs',by omega,rfl,?_,HL3.out,HS10.out.below b11,HB8.out.trans (b11.mono HB8.out.size)⟩,?_⟩
        · show Value.int .i64 (2 * (i:Int)+2)=.int .i64 (2 * ((i+1:Nat):Int))
          congr 1
        · simp[RowKit.intOf];omega
    · have f0:¬((i:Int)<(n:Int))∨¬((i:Int)<12):=by omega
      have AW:=awake_any wr
      rcases f0 with f0|f0
      · go_wp2_with (go_at_call 22;(with_reducible refine AW.mono ?_);rintro e w3 ⟨rfl,b3⟩)
        go_ret
        exact⟨rfl,hb.trans (b3.mono hb.size)⟩
      · by_cases f1:(i:Int)<(n:Int)
        · go_wp2_with (go_at_call 22;(with_reducible refine AW.mono ?_);rintro e w3 ⟨rfl,b3⟩)
          go_ret
          exact⟨rfl,hb.trans (b3.mono hb.size)⟩
        · go_wp2_with (go_at_call 22;(with_reducible refine AW.mono ?_);rintro e w3 ⟨rfl,b3⟩)
          go_ret
          exact⟨rfl,hb.trans (b3.mono hb.size)⟩
end Go.Proofs.YtdbkocfbhpgpkaaGreat
