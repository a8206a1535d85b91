/-
  store.Put: refused, new, or over what the transaction has written.
-/
import Derived.Test.YtdbkocfbhpgpkaaGreatb28
import Derived.Test.YtdbkocfbhpgpkaaGreatb38
import Derived.Test.YtdbkocfbhpgpkaaGreatb37
set_option linter.unusedVariables false
set_option linter.unusedSimpArgs false
namespace Go.Proofs.YtdbkocfbhpgpkaaGreat
open Go Go.RowKit Go.Shelf
set_option maxRecDepth 100000
set_option maxHeartbeats 4000000
theorem pick_any(x:Int)(hx:-9223372036854775808≤x∧x≤9223372036854775807)(w:World) :
    Calls Tryz.prog 13 #[.int .i64 x,.int .i64 1000003] w fun e w'=>(∃ n:Nat,n<1000003∧e=.returned (.int .i64 (n:Int)))∧w'=w:=by
  have h1:=Int.tmod_lt_of_pos x (show(0:Int)<1000003 by decide)
  have h2:-1000003<x.tmod 1000003:=by
    have:=Int.tmod_lt_of_pos (-x) (show(0:Int)<1000003 by decide)
    rw[Int.neg_tmod] at this
    omega
  obtain⟨r,hr⟩:∃ r,x.tmod 1000003=r:=⟨_,rfl⟩
  rw[hr] at h1 h2
  by_cases h0:r<0
  · have f1:wrap64 (r+1000003)=r+1000003:=IntWalk.wrap64_in _ (by omega)
    go_enter Tryz.func13,Tryz.ntmps13
    go_wp2
    go_ret
    exact⟨⟨(r+1000003).toNat,by omega,by rw[Int.toNat_of_nonneg (by omega)];rfl⟩,rfl⟩
  · go_enter Tryz.func13,Tryz.ntmps13
    go_wp2
    go_ret
    exact⟨⟨r.toNat,by omega,by rw[Int.toNat_of_nonneg (by omega)];rfl⟩,rfl⟩
theorem key_any(n:Nat)(hn:n<1000003)(w:World) :
    Calls Tryz.prog 16 #[.int .i64 (n:Int)] w fun e w'=>(∃ g c,e=.returned (.slice (some ⟨g,0,none⟩) 2 c)∧Own w' w.heap.size (.slice (some ⟨g,0,none⟩) 2 c) [107,UInt8.ofNat (n % 9)])∧Below w.heap.size w w':=by
  obtain⟨m,hm⟩:∃ m:Nat,n % 9=m:=⟨_,rfl⟩
  have hm9:m<9:=by omega
  have e1:(n:Int) % 9=(m:Int):=by omega
  have e1':(n:Int).tmod 9=(m:Int):=by rw[Int.tmod_eq_emod_of_nonneg (by omega)];omega
  have e2:IntKind.u8.wrap (m:Int)=(m:Int):=by rw[IntKind.wrap_u8];omega
  have e3:(m:Int)=((UInt8.ofNat m).toNat:Int):=by simp;omega
  have o:Own (w.alloc (.cells #[.int .u8 107,.int .u8 (m:Int)] 5)) w.heap.size (.slice (some ⟨w.heap.size,0,none⟩) 2 2) [107,UInt8.ofNat m]:=by
    refine Own.of_full ((heap_alloc_new w _).trans ?_) (Nat.le_refl _) rfl (by decide)
    simp[u8V]
    omega
  have HO:=Lib.hid o
  rw[hm]
  clear hm hn e3 o
  go_enter Tryz.func16,Tryz.ntmps16
  go_wp2
  go_ret
  exact⟨⟨_,_,rfl,HO.out⟩,(Below.refl _ _).alloc (Nat.le_refl _) _⟩
theorem u8_some(y:Int):∃ b:UInt8,y % 256=(b.toNat:Int):=⟨UInt8.ofNat (y % 256).toNat,by simp;omega⟩
theorem lmade_any(s:Int)(n:Nat)(hn:n≤1000)(w:World) :
    Calls Tryz.prog 72 #[.int .i64 s,.int .i64 (n:Int)] w fun e w'=>(∃ g c l,e=.returned (.slice (some ⟨g,0,none⟩) n c)∧l.length=n∧Own w' w.heap.size (.slice (some ⟨g,0,none⟩) n c) l)∧Below w.heap.size w w':=by
  obtain⟨w0,hmk,hown,hb⟩:=mkn w n (by omega)
  have hlen:(List.replicate n (0:UInt8)).length=n:=by simp
  rcases Nat.eq_zero_or_pos n with h0|h0
  · subst h0
    have hmk':(Instr.makeSlice 33 (.int .i64 0) (.int .i64 0)).run Tryz.prog w=.ok (.slice (some ⟨w.heap.size,0,none⟩) 0 0) w0:=hmk
    have HO:=Lib.hid hown
    clear hmk hown hlen
    rw[show((0:Nat):Int)=0 from rfl]
    go_enter Tryz.func72,Tryz.ntmps72
    go_wp2
    go_loopw [6,7] (fun u i wr=>(∃ z,u=.int .u64 z)∧i=.int .i64 0∧wr=w0) (fun _ _ _=>0)
    case atStart=>exact⟨⟨_,rfl⟩,rfl,rfl⟩
    case round=>
      obtain⟨⟨z,rfl⟩,rfl,rfl⟩:=hrel
      go_wp2
      go_ret
      exact⟨⟨_,_,[],rfl,rfl,HO.out⟩,hb⟩
  · have hf:=hown.full hlen h0
    have HMK:=Lib.hid hmk
    have HH:=Lib.hid hn
    clear hown
    go_enter Tryz.func72,Tryz.ntmps72
    go_wp2
    go_loopw [6,7] (fun u i wr=>(∃ z,u=.int .u64 z)∧∃ (k:Nat) (l:List UInt8),k≤n∧i=.int .i64 (k:Nat)∧l.length=n∧wr.heap[w.heap.size]? = some (.cells (l.map u8V).toArray 5 (0,0))∧Below w.heap.size w wr) (fun _ i _=>n-(RowKit.intOf i).toNat)
    case atStart=>exact⟨⟨_,rfl⟩,0,_,Nat.zero_le _,rfl,hlen,hf,hb⟩
    case round=>
      obtain⟨⟨z,rfl⟩,k,l,hk,rfl,hl,hg,hb2⟩:=hrel
      have HL:=Lib.hid hl
      have HK:=Lib.hid hmk
      clear hmk hl hf hb hlen
      by_cases hlt:k<n
      · have c0:wr.cell? ⟨w.heap.size,k,none⟩=some (u8V (l[k]'(by rw[HL.out];exact hlt))):=(cellD hg k).trans (by simp[List.getElem?_eq_getElem (show k<l.length by rw[HL.out];exact hlt)])
        have z0:wr.frozen? ⟨w.heap.size,k,none⟩=false:=frozenD hg k
        have SET:∀ y:Int,∃ (l':List UInt8) (W:World),wr.setCell ⟨w.heap.size,k,none⟩ (.int .u8 (y % 256))=W∧l'.length=n∧W.heap[w.heap.size]? = some (.cells (l'.map u8V).toArray 5 (0,0))∧Below w.heap.size w W:=fun y=>by
          obtain⟨b,hb'⟩:=u8_some y
          obtain⟨W,hW,g,kk,-⟩:=set_name k hg (.int .u8 (y % 256))
          refine⟨l.set k b,W,hW,by simp[HL.out],?_,hb2.trans (kk.below hb2.size fun g hg e=>by have:g=w.heap.size:=e;omega)⟩
          rw[g,hb']
          congr 2
          simp[List.map_set,u8V]
        have HS:=Lib.hid SET
        clear SET
        have km:(k:Int).tmod 64=(k:Int) % 64:=Int.tmod_eq_emod_of_nonneg (by omega)
        by_cases h64:(k:Int) % 64=0
        · go_wp2
          obtain⟨l',W,hW,hl',hg',hb'⟩:=HS.out (IntKind.u64.wrap (IntKind.u64.wrap (z * 2862933555777941757)+3037000493) / 1099511627776)
          refine⟨⟨⟨_,rfl⟩,k+1,l',by omega,rfl,hl',?_,?_⟩,?_⟩
          · rw[hW];exact hg'
          · rw[hW];exact hb'
          · simp[RowKit.intOf];omega
        · go_wp2
          obtain⟨l',W,hW,hl',hg',hb'⟩:=HS.out (z / 1099511627776)
          refine⟨⟨⟨_,rfl⟩,k+1,l',by omega,rfl,hl',?_,?_⟩,?_⟩
          · rw[hW];exact hg'
          · rw[hW];exact hb'
          · simp[RowKit.intOf];omega
      · obtain rfl:k=n:=by omega
        go_wp2
        go_ret
        exact⟨⟨_,_,l,rfl,HL.out,Own.of_full hg (Nat.le_refl _) HL.out (by have:=HH.out;unfold maxLen;omega)⟩,hb2⟩
theorem value_any(n:Nat)(hn:n<1000003)(w:World) :
    Calls Tryz.prog 17 #[.int .i64 (n:Int)] w fun e w'=>(∃ g c l m,e=.returned (.slice (some ⟨g,0,none⟩) m c)∧l.length=m∧m≤85∧Own w' w.heap.size (.slice (some ⟨g,0,none⟩) m c) l)∧Below w.heap.size w w':=by
  obtain⟨m,hm⟩:∃ m:Nat,n % 6 * 17=m:=⟨_,rfl⟩
  have hm9:m≤85:=by omega
  have e1:(n:Int) % 6 * 17=(m:Int):=by omega
  have e1':(n:Int).tmod 6=(n:Int) % 6:=Int.tmod_eq_emod_of_nonneg (by omega)
  have MD:=lmade_any (n:Int) m (by omega) w
  clear hm hn
  go_enter Tryz.func17,Tryz.ntmps17
  go_wp2_with (go_at_call 72;(with_reducible refine MD.mono ?_);rintro e w2 ⟨⟨g,c,l,rfl,hl,o⟩,b⟩)
  go_ret
  exact⟨⟨g,c,l,m,rfl,hl,hm9,o⟩,b⟩
end Go.Proofs.YtdbkocfbhpgpkaaGreat
namespace Go.Proofs.YtdbkocfbhpgpkaaGreat
open Go Go.RowKit Go.Shelf
open Go.Ev (PgM PageOk CellsOut)
set_option maxRecDepth 100000
set_option maxHeartbeats 4000000
theorem pageOk_nil:PageOk 1 0 []:=⟨.inl rfl,by decide,fun c h=>by simp at h,fun i h=>by simp at h,by decide⟩
def Dini (s who nf:Nat)(P:PD):SD:=⟨⟨60,1,1,0⟩,⟨2,60,1,0,1,0,.slice none 0 0,[],0,0⟩,⟨62,80,1,2,.func (.func 158) #[.pointer (some ⟨s,0,none⟩)] #[],none,nf⟩,false,⟨1,1,0,who,.slice none 0 0⟩,[],[],[],.slice none 0 0,P⟩
theorem lready_any(w:World){nf:Nat}(h7:2≤nf)(h8:nf≤200) :
    Calls Tryz.prog 11 #[.int .i64 (nf:Int),.slice none 0 0] w fun e w'=>(∃ X P st,e=.returned (.tuple #[.pointer (some ⟨X.B.d,0,none⟩),.pointer (some ⟨X.s,0,none⟩),.bool true])∧StW X (Dini X.s X.who nf P) w'∧X.n0=w.heap.size∧Hi X∧P.Fine∧P.ws=[]∧P.bs.length=142∧P.bs[63]? = some (sealed (pgL 1 0 []) st)∧∃ st0,P.bs[62]? = some (sealed (padP taken) st0))∧Below w.heap.size w w':=by
  have NW:=new_any (Z:=fun _=>False) w 142 (by decide) (by decide) (fun _ h=>h.elim)
  rw[show((142:Nat):Int)=142 from rfl] at NW
  go_enter Tryz.func11,Tryz.ntmps11
  go_upto_region 2 with (go_at_call 56;(with_reducible refine NW.mono ?_);rintro e w1 ⟨⟨d,db,rfl,d1,hd,hdb⟩,b1⟩)
  have dk1:Dk (fun _=>False) w1 w.heap.size d db (.slice none 0 0) ⟨List.replicate 142 zs,[],-1,0⟩:=⟨d1.box,d1.row,Pn.nil _ _,d1.ok,b1.size,d1.wet⟩
  obtain⟨w2,hmk,o2,b2⟩:=mkn w1 4080 (by decide)
  have hmk':(Instr.makeSlice 33 (.int .i64 4080) (.int .i64 4080)).run Tryz.prog w1=.ok (.slice (some ⟨w1.heap.size,0,none⟩) 4080 4080) w2:=hmk
  have g2:=o2.full (by simp) (by decide)
  have c2:w2.cell? ⟨w1.heap.size,0,none⟩=some (.int .u8 0):=(cellD g2 0).trans (by simp[u8V])
  have z2:w2.frozen? ⟨w1.heap.size,0,none⟩=false:=frozenD g2 0
  obtain⟨W3,hW3,g3,k3,s3⟩:=set_name 0 g2 (.int .u8 3)
  have o3:Own W3 w1.heap.size (.slice (some ⟨w1.heap.size,0,none⟩) 4080 4080) taken:=by
    refine Own.of_full (g3.trans ?_) (Nat.le_refl _) taken_len (by decide)
    congr 2
  have HO3:=Lib.hid o3
  have HB2:=Lib.hid b2
  have HD1:=Lib.hid dk1
  clear hmk o2 g2 d1 dk1 b2 g3 s3 o3
  have z12:=HB2.out.size
  have b13:Below w1.heap.size w1 W3:=HB2.out.trans (k3.below z12 fun k hk e=>by have:k=w1.heap.size:=e;omega)
  obtain⟨s0,hs0⟩:∃ s0,ofS 1 0=s0:=⟨_,rfl⟩
  have hs0l:s0≤18446744073709551615:=hs0▸ofS_le 1 0
  have OF0:=of_any 1 0 W3
  rw[hs0] at OF0
  have SE:=seal_any (Z:=fun _=>False) (some ⟨w1.heap.size,0,none⟩) 4080 4080 s0 taken W3 (by obtain⟨A,c,e,-,-,r⟩:=HO3.out.slice;injection e with e;rw[e];exact r) taken_len.symm (by rw[taken_len];decide) (by rw[taken_len];decide) hs0l (fun _ h=>h.elim)
  have HS0:=Lib.hid (And.intro hs0 hs0l)
  clear hs0 hs0l k3 z12
  go_upto_region 5 with (first
    | (go_at_call 58;(with_reducible refine OF0.mono ?_);rintro e W3 ⟨rfl,rfl⟩)
    | (go_at_call 57;(with_reducible refine SE.mono ?_);rintro e w4 ⟨⟨ga,rfl,bka,gal⟩,b4⟩))
  have z4:=b4.size
  have PK:Calls Tryz.prog 59 #[.agg #[.int .u8 1,.int .i64 0,.slice none 0 0]] w4 fun e w'=>(∃ v,e=.returned (.tuple #[v,.int .i64 0])∧Own w' w4.heap.size v (pgL 1 0 []))∧Below w4.heap.size w4 w':=pack_call 1 0 [] none 0 0 w4 pageOk_nil rfl ⟨[],rfl,fun h=>absurd rfl h,fun i h=>by simp at h⟩
  have hpl:(pgL 1 0 []).length=4080:=pg_len pageOk_nil
  have HPL:=Lib.hid hpl
  obtain⟨s1,hs1⟩:∃ s1,ofS 1 1=s1:=⟨_,rfl⟩
  have hs1l:s1≤18446744073709551615:=hs1▸ofS_le 1 1
  have OF1:=fun w5=>of_any 1 1 w5
  rw[hs1] at OF1
  have HS1:=Lib.hid (And.intro hs1 hs1l)
  clear hs1 hs1l hpl OF0 SE NW hmk' hW3 c2 z2
  go_upto_region 7 with (first
    | (go_at_call 59;(with_reducible refine PK.mono ?_);rintro e w5 ⟨⟨v5,rfl,o5⟩,b5⟩;obtain⟨A5,c5,rfl,-,-,r5⟩:=o5.sl HPL.out;have SE1:=seal_any (Z:=fun _=>False) A5 4080 c5 s1 (pgL 1 0 []) w5 r5 HPL.out.symm (by rw[HPL.out];decide) (by rw[HPL.out];decide) HS1.out.2 (fun _ h=>h.elim))
    | (go_at_call 58;(with_reducible refine(OF1 _).mono ?_);rintro e w5 ⟨rfl,rfl⟩)
    | (go_at_call 57;(with_reducible refine SE1.mono ?_);rintro e w6 ⟨⟨gb,rfl,bkb,gbl⟩,b6⟩))
  have z5:=b5.size
  have z6:=b6.size
  have b16:Below w1.heap.size w1 w6:=((b13.trans (b4.mono b13.size)).trans (b5.mono (Nat.le_trans b13.size z4))).trans (b6.mono (Nat.le_trans (Nat.le_trans b13.size z4) z5))
  have d6:=HD1.out.below b16
  have bka6:Bk (fun _=>False) w6 (.slice (some ⟨ga,0,none⟩) 4096 4096) (sealed (padP taken) s0):=bka.same fun g x hg=>(b5.trans (b6.mono z5)).block g (hlt hg)
  obtain⟨la,hla⟩:∃ la,sealed (padP taken) s0=la:=⟨_,rfl⟩
  obtain⟨lb,hlb⟩:∃ lb,sealed (padP (pgL 1 0 [])) s1=lb:=⟨_,rfl⟩
  have hlal:la.length=4096:=by rw[← hla];exact sealed_len (padP_len (by rw[taken_len];decide))
  have hlbl:lb.length=4096:=by rw[← hlb];exact sealed_len (padP_len (by rw[HPL.out];decide))
  rw[hla] at bka6
  rw[hlb] at bkb
  obtain⟨Aa,ea,ra⟩:=bka6.rd
  injection ea with ea
  subst ea
  have fine0:(⟨List.replicate 142 zs,[],-1,0⟩:PD).Fine:=⟨rfl,rfl⟩
  have WA:Calls Tryz.prog 60 #[.pointer (some ⟨d,0,none⟩),.int .i64 62,.slice (some ⟨ga,0,none⟩) 4096 4096] w6 fun e w'=>e=.returned (.int .i64 0)∧(∃ pv',Dk (fun _=>False) w' w.heap.size d db pv' ⟨List.replicate 142 zs,[(62,la)],-1,0⟩)∧Fr w.heap.size d db w6 w':=by
    have:=write_any d6 62 (by simp) (some ⟨ga,0,none⟩) 4096 la ra hlal (by simp)
    rw[fine0.put_eq] at this
    exact this
  have HLA:=Lib.hid hla
  have HX:=Lib.hid (And.intro bkb (And.intro hlbl (And.intro hlb fine0)))
  have HB16:=Lib.hid b16
  clear bka bka6 ra hlal hlbl hlb hla fine0 bkb d6 b16 PK o5 r5 SE1 OF1 z4 z5 z6 gbl gal
  go_upto_region 8 with (go_at_call 60;(with_reducible refine WA.mono ?_);rintro e w7 ⟨rfl,⟨pv7,d7⟩,f7⟩)
  obtain⟨bkb,hlbl,hlb,fine0⟩:=HX.out
  have d6:=HD1.out.below HB16.out
  have bkb7:=bkb.same (w':=w7) fun g x hg=>f7.keep hg (fun e=>by subst e;exact tag_ne hg d6.box (by decide) rfl) (fun e=>by
    obtain⟨cs,hc,-⟩:=d6.row
    subst e;exact tag_ne hg hc (by decide) rfl) (fun y e=>by injection e with _ e;exact absurd e (by decide))
  obtain⟨Ab,eb,rb⟩:=bkb7.rd
  injection eb with eb
  subst eb
  have fine1:(⟨List.replicate 142 zs,[(62,la)],-1,0⟩:PD).Fine:=⟨rfl,rfl⟩
  have WB:Calls Tryz.prog 60 #[.pointer (some ⟨d,0,none⟩),.int .i64 63,.slice (some ⟨gb,0,none⟩) 4096 4096] w7 fun e w'=>e=.returned (.int .i64 0)∧(∃ pv',Dk (fun _=>False) w' w.heap.size d db pv' ⟨List.replicate 142 zs,[(62,la),(63,lb)],-1,0⟩)∧Fr w.heap.size d db w7 w':=by
    have:=write_any d7 63 (by simp) (some ⟨gb,0,none⟩) 4096 lb rb hlbl (by simp)
    rw[fine1.put_eq] at this
    exact this
  have SY:∀ w8 pv8,Dk (fun _=>False) w8 w.heap.size d db pv8 ⟨List.replicate 142 zs,[(62,la),(63,lb)],-1,0⟩→Calls Tryz.prog 61 #[.pointer (some ⟨d,0,none⟩)] w8 fun e w'=>e=.returned (.int .i64 0)∧Dk (fun _=>False) w' w.heap.size d db (.slice none 0 0) ⟨carry (List.replicate 142 zs) [(62,la),(63,lb)],[],-1,0⟩∧Fr w.heap.size d db w8 w':=fun w8 pv8 d8=>by
    have:=sync_any d8 (by simp)
    have fine2:(⟨List.replicate 142 zs,[(62,la),(63,lb)],-1,0⟩:PD).Fine:=⟨rfl,rfl⟩
    rw[fine2.sync_eq] at this
    refine this.mono ?_
    rintro e w' ⟨rfl,⟨pv',dk,h0⟩,fr⟩
    rw[h0 rfl] at dk
    exact⟨rfl,dk,fr⟩
  have HSY:=Lib.hid SY
  have HX2:=Lib.hid (And.intro hlbl hlb)
  have HF7:=Lib.hid f7
  clear bkb hlbl hlb fine0 d6 bkb7 rb fine1 d7 f7 SY
  go_upto_region 10 with (first
    | (go_at_call 60;(with_reducible refine WB.mono ?_);rintro e w8 ⟨rfl,⟨pv8,d8⟩,f8⟩;have S8:=HSY.out w8 pv8 d8)
    | (go_at_call 61;(with_reducible refine S8.mono ?_);rintro e w9 ⟨rfl,d9,f9⟩))
  have HD9:=Lib.hid d9
  have HF89:=Lib.hid (And.intro f8 f9)
  clear d9 f8 f9 S8 WB WA d8
  go_upto_region 11 with fail
  obtain⟨W10,hW10,g10,b10,s10⟩:=box_alloc w9 (.cells #[.int .i64 60,.int .i64 1,.int .i64 0,.int .i64 1,.int .i64 1,.slice none 0 0,.slice none 0 0] 73)
  rw[hW10]
  clear hW10 s10
  have p0:W10.cell? ⟨w9.heap.size,0,none⟩=some (.int .i64 60):=cellD g10 0
  have p1:W10.cell? ⟨w9.heap.size,1,none⟩=some (.int .i64 1):=cellD g10 1
  have p2:W10.cell? ⟨w9.heap.size,2,none⟩=some (.int .i64 0):=cellD g10 2
  have p3:W10.cell? ⟨w9.heap.size,3,none⟩=some (.int .i64 1):=cellD g10 3
  have p4:W10.cell? ⟨w9.heap.size,4,none⟩=some (.int .i64 1):=cellD g10 4
  have p5:W10.cell? ⟨w9.heap.size,5,none⟩=some (.slice none 0 0):=cellD g10 5
  have p6:W10.cell? ⟨w9.heap.size,6,none⟩=some (.slice none 0 0):=cellD g10 6
  have SN:=snew_any (HD9.out.below b10) (by rw[carry_len];simp) hd hdb h7 h8
  go_wp2_with (go_at_call 62;(with_reducible refine SN.mono ?_);rintro e w11 ⟨⟨X,D,rfl,st,hXd,hXn,hHi,hDe⟩,b11⟩)
  go_ret3
  subst hDe
  have fr_b:∀ {w' w'':World},Fr w.heap.size d db w' w''→w.heap.size≤w'.heap.size→Below w.heap.size w' w'':=fun {w' w''} F hn=>F.kp.below hn fun g hg e=>by
    rcases e with e|e|⟨e,-⟩<;>omega
  have e1:=b1.size
  have e6:=Nat.le_trans e1 HB16.out.size
  have e7:=Nat.le_trans e6 HF7.out.size
  have e8:=Nat.le_trans e7 HF89.out.1.size
  have e9:=Nat.le_trans e8 HF89.out.2.size
  have e10:=Nat.le_trans e9 b10.size
  refine⟨⟨X,_,s1,by rw[hXd];rfl,st,hXn,hHi,⟨rfl,rfl⟩,rfl,by rw[carry_len];simp,?_,s0,?_⟩,(((((b1.trans (HB16.out.mono e1)).trans (fr_b HF7.out e6)).trans (fr_b HF89.out.1 e7)).trans (fr_b HF89.out.2 e8)).trans (b10.mono e9)).trans (b11.mono e10)⟩
  · rw[← padP_full HPL.out,HX2.out.2]
    simp[carry]
  · rw[HLA.out]
    simp[carry]
end Go.Proofs.YtdbkocfbhpgpkaaGreat
namespace Go.Proofs.YtdbkocfbhpgpkaaGreat
open Go Go.RowKit Go.Shelf
open Go.Ev (PgM PageOk CellsOut BelowIs)
set_option maxRecDepth 100000
set_option maxHeartbeats 4000000
theorem mset_same:∀ (m:List (Int×Value)) (k:Int) (v:Value),(mset m k v).lookup k=some v
  | [],k,v=>by simp[mset,List.lookup]
  | p :: m, k, v => by
    unfold mset
    split
    · rename_i h;simp[List.lookup,h]
    · rename_i h
      have:(k==p.1)=false:=by simpa using h
      simp[List.lookup,this,mset_same m k v]
theorem vkey_num{k k':List UInt8}{n n':Nat}(hn:n≤18446744073709551615)(hn':n'≤18446744073709551615)(h:vkey k n=vkey k' n'):n=n':=by
  unfold vkey at h
  have h2:=(List.append_inj' h (by rw[le_len,le_len])).2
  have h3:=congrArg leN h2
  rw[leN_le8 (by have:=vnum_le n;omega),leN_le8 (by have:=vnum_le n';omega)] at h3
  have h4:revB (BitVec.ofNat 64 (18446744073709551615-n))=revB (BitVec.ofNat 64 (18446744073709551615-n')):=BitVec.eq_of_toNat_eq h3
  have h5:=congrArg revB h4
  rw[revB_two,revB_two] at h5
  have h6:=congrArg BitVec.toNat h5
  rw[BitVec.toNat_ofNat,BitVec.toNat_ofNat,Nat.mod_eq_of_lt (by omega),Nat.mod_eq_of_lt (by omega)] at h6
  omega
theorem cmp_swap:∀ l k:List UInt8,Lib.compareBytes k l=- Lib.compareBytes l k
  | [],[]=>rfl
  | [],_::_=>rfl
  | _::_,[]=>rfl
  | a :: l, b :: k => by
    unfold Lib.compareBytes
    by_cases h1:a<b
    · have h2:¬b<a:=by intro h;exact absurd (UInt8.lt_trans h1 h) (UInt8.lt_irrefl _)
      simp[h1,h2]
    · by_cases h2:b<a
      · simp[h1,h2]
      · simp[h1,h2,cmp_swap l k]
theorem cmp_val:∀ l k:List UInt8,Lib.compareBytes l k=-1∨Lib.compareBytes l k=0∨Lib.compareBytes l k=1
  | [],[]=>.inr (.inl rfl)
  | [],_::_=>.inl rfl
  | _::_,[]=>.inr (.inr rfl)
  | a :: l, b :: k => by
    unfold Lib.compareBytes
    by_cases h1:a<b
    · simp[h1]
    · by_cases h2:b<a
      · simp[h1,h2]
      · simpa[h1,h2] using cmp_val l k
theorem bodyS_ins(cs:List NC)(nc:NC)(j:Nat):bodyS (cs.take j++nc::cs.drop j)=bodyS cs+nc.sz:=by
  have e:bodyS cs=bodyS (cs.take j)+bodyS (cs.drop j):=by
    unfold bodyS
    rw[← List.sum_append,← List.map_append,List.take_append_drop]
  have e2:bodyS (cs.take j++nc::cs.drop j)=bodyS (cs.take j)+(nc.sz+bodyS (cs.drop j)):=by
    unfold bodyS
    rw[List.map_append,List.sum_append,List.map_cons,List.sum_cons]
  rw[e,e2];omega
theorem ins_len(cs:List NC)(nc:NC)(j:Nat)(h:j≤cs.length):(cs.take j++nc::cs.drop j).length=cs.length+1:=by simp;omega
theorem ins_mem{cs:List NC}{nc c:NC}{j:Nat}(h:c∈cs.take j++nc::cs.drop j):c∈cs∨c=nc:=by
  rcases List.mem_append.1 h with h|h
  · exact .inl (List.mem_of_mem_take h)
  · rcases List.mem_cons.1 h with h|h
    · exact .inr h
    · exact .inl (List.mem_of_mem_drop h)
theorem pageOk_ins{cs:List NC}{nc:NC}{j:Nat}(hok:PageOk 1 0 cs)(hj:BelowIs cs nc.key j)(hno:∀ c∈cs,c.key≠nc.key)(hnc:nc.Ok)(hf:8+2 * (cs.length+1)+(bodyS cs+nc.sz)≤4080):PageOk 1 0 (cs.take j++nc::cs.drop j):=by
  obtain⟨h1,h2,h3⟩:=hj
  refine⟨.inl rfl,by decide,fun c hc=>?_,fun i hi=>?_,by rw[ins_len _ _ _ h1,bodyS_ins];exact hf⟩
  · rcases ins_mem hc with h|h
    · exact hok.ok c h
    · rw[h];exact hnc
  · rw[ins_len _ _ _ h1] at hi
    have hlt:(cs.take j).length=j:=by simp;omega
    have get_lo:∀ (q:Nat) (h:q<(cs.take j++nc::cs.drop j).length),(hq:q<j)→(cs.take j++nc::cs.drop j)[q]=cs[q]'(by omega):=fun q h hq=>by
      rw[List.getElem_append_left (by omega)];simp
    have get_mid:∀ (h:j<(cs.take j++nc::cs.drop j).length),(cs.take j++nc::cs.drop j)[j]=nc:=fun h=>by
      rw[List.getElem_append_right (by omega)];simp[hlt]
    have get_hi:∀ (q:Nat) (h:q<(cs.take j++nc::cs.drop j).length),(hq:j<q)→(cs.take j++nc::cs.drop j)[q]=cs[q-1]'(by rw[ins_len _ _ _ h1] at h;omega):=fun q h hq=>by
      rw[List.getElem_append_right (by omega)]
      simp only[hlt]
      rw[List.getElem_cons,dif_neg (by omega)]
      simp[show j+(q-j-1)=q-1 by omega]
    have hne:∀ c∈cs,Lib.compareBytes c.key nc.key≠0:=fun c hc e=>hno c hc ((compareBytes_zero _ _).1 e)
    rcases Nat.lt_trichotomy i j with q|q|q
    · rw[get_lo i _ q]
      rcases Nat.lt_or_ge (i+1) j with q2|q2
      · rw[get_lo (i+1) _ q2]
        exact hok.rise i (by omega)
      · have:i+1=j:=by omega
        subst this
        rw[get_mid]
        have a:=h2 i (by omega) (by omega)
        have b:=hne cs[i] (List.getElem_mem _)
        rcases cmp_val cs[i].key nc.key with c|c|c<;>omega
    · subst q
      rw[get_mid,get_hi (i+1) _ (by omega)]
      simp only[Nat.add_sub_cancel]
      have a:=h3 (by omega)
      rw[cmp_swap]
      rcases cmp_val cs[i].key nc.key with c|c|c<;>omega
    · rw[get_hi i _ q,get_hi (i+1) _ (by omega)]
      have:=hok.rise (i-1) (by omega)
      simpa[show i-1+1=i by omega] using this
theorem mid2{A B C:List UInt8}(ha:A.length=2)(hb:B.length=2):((A++(B++C)).drop 2).take 2=B:=by
  rw[List.drop_left' ha,List.take_left' hb]
theorem pgL_ne{cs cs':List NC}(h1:cs.length<65536)(h2:cs'.length<65536)(h:cs.length≠cs'.length):pgL 1 0 cs≠pgL 1 0 cs':=fun e=>by
  have e2:=congrArg (fun l=>(l.drop 2).take 2) e
  have f:∀ ds:List NC,((pgL 1 0 ds).drop 2).take 2=le 2 ds.length:=fun ds=>by
    unfold pgL pkL frontL
    simp only[List.append_assoc]
    exact mid2 (le_len _ _) (le_len _ _)
  have e3:le 2 cs.length=le 2 cs'.length:=by rw[← f cs,← f cs'];exact e2
  have e4:=congrArg leN e3
  rw[leN_small 2 _ (by omega),leN_small 2 _ (by omega)] at e4
  exact h e4
def ncOf (k v:List UInt8):NC:=⟨k.length,leN k,v.length,leN v⟩
theorem bl_leN(l:List UInt8):bl l.length (leN l)=l:=by
  rw[← bl_le]
  refine leN_inj (by rw[le_len]) ?_
  rw[leN_small _ _ (leN_lt l)]
theorem nc_key(k v:List UInt8):(ncOf k v).key=k:=bl_leN k
theorem nc_val(k v:List UInt8):(ncOf k v).val=v:=bl_leN v
theorem pow256'(n:Nat):256 ^ n=2 ^ (8 * n):=by rw[Nat.pow_mul]
theorem nc_ok{k v:List UInt8}(h1:1≤k.length)(h2:k.length≤320)(h3:v.length≤576):(ncOf k v).Ok:=
  ⟨h1,h2,h3,by have:=leN_lt k;rw[pow256'] at this;exact this,by have:=leN_lt v;rw[pow256'] at this;exact this⟩
end Go.Proofs.YtdbkocfbhpgpkaaGreat
namespace Go.Proofs.YtdbkocfbhpgpkaaGreat
open Go Go.RowKit Go.Shelf
open Go.Ev (PgM PageOk CellsOut rowsOf rowsV rowV rowsOf_len BelowIs)
set_option maxRecDepth 100000
set_option maxHeartbeats 4000000
open Classical in
noncomputable def nOf(c:NC):Nat:=if h:∃ n,∃ k,c.key=vkey k n∧n≤4611686018427387904 then h.choose else 0
theorem nOf_eq{c:NC}{k:List UInt8}{n:Nat}(h:c.key=vkey k n)(hn:n≤4611686018427387904):nOf c=n:=by
  have hx:∃ n,∃ k,c.key=vkey k n∧n≤4611686018427387904:=⟨n,k,h,hn⟩
  unfold nOf
  rw[dif_pos hx]
  obtain⟨k',e,hn'⟩:=hx.choose_spec
  exact(vkey_num (by omega) (by omega) (h.symm.trans e)).symm
noncomputable def wasOf(tx:Nat)(ps:List NC):List UInt8:=ps.foldl (fun o c=>if nOf c=tx then c.val else o) []
theorem wasOf_snoc{tx q:Nat}{ps:List NC}(h:q<ps.length):wasOf tx (ps.take (q+1))=if nOf ps[q]=tx then ps[q].val else wasOf tx (ps.take q):=by
  unfold wasOf
  rw[List.take_succ_eq_append_getElem h,List.foldl_append]
  rfl
theorem VOf.n{w:World}{n₀:Nat}{x:VR}{c:NC}(h:VOf w n₀ x c):nOf c=x.by_:=by
  obtain⟨k,e,-,-,hn⟩:=h.by_
  exact nOf_eq e hn
theorem vs_map{w:World}{n₀:Nat}{vs:List VR}{ps:List NC}(h:VsOf w n₀ vs ps):vs.map VR.by_=ps.map nOf:=by
  refine List.ext_getElem (by simp[h.1]) fun i h1 h2=>?_
  rw[List.getElem_map,List.getElem_map]
  exact(h.2 i (by simpa using h1) (by simpa using h2)).n.symm
theorem was_at{X:ST}{D D':SD}{w w':World}{U:Int→Option Us}{n₀ tx:Nat}{vs:List VR}{ps:List NC}(st:StW X D w)(u:Undos X D w U)(m:Mv X D D' w w')(hD:D'=D∨∃ f,D'=D.hold f)(h:VsOf w' n₀ vs ps)(hn:w.heap.size≤n₀) :
    ∀ q,q≤vs.length→∃ A c,wasV (lastBy tx (vs.take q))=.slice A (wasOf tx (ps.take q)).length c∧SRd X D' w' A (wasOf tx (ps.take q)):=by
  intro q
  induction q with
  | zero=>exact fun _=>⟨none,0,rfl,fun hne=>absurd rfl hne⟩
  | succ q ih =>
    intro hq
    have h1:q<vs.length:=hq
    have h2:q<ps.length:=by rw[← h.1];exact h1
    rw[lastBy_snoc h1,wasOf_snoc h2]
    have o:=h.2 q h1 h2
    rw[o.n]
    by_cases e:vs[q].by_=tx
    · rw[if_pos e,if_pos e]
      have hl:ps[q].val.length=vs[q].sn:=by rw[o.sn];simp[NC.val,bl]
      exact⟨vs[q].sA,vs[q].sc,by rw[hl];rfl,own_srd st u m hD o.s hn⟩
    · rw[if_neg e,if_neg e]
      exact ih (by omega)
structure GS(X:ST)(D:SD)(w:World)(k:Nat)(cs:List NC)(U:Int→Option Us):Prop where
  st:StW X D w
  iv:Ivt X D k (pgL 1 0 cs)
  tok:TOk D
  us:Undos X D w U
  ok:PageOk 1 0 cs
  v1:∀ c∈cs,1≤c.vn
  isv:∀ c∈cs,IsV c
  len:cs.length≤60
  hd:(cs≠[]∨∃ n us,U n=some us)→∃ f,D.R.held=some f
section
variable {X:ST}{D D':SD}{w w':World}{k:Nat}{cs:List NC}{U:Int→Option Us}
theorem GS.mono{k':Nat}(g:GS X D w k cs U)(h:k≤k'):GS X D w k' cs U:=⟨g.st,g.iv.mono h,g.tok,g.us,g.ok,g.v1,g.isv,g.len,g.hd⟩
theorem GS.below(g:GS X D w k cs U)(b:Below w.heap.size w w'):GS X D w' k cs U:=⟨g.st.below b,g.iv,g.tok,g.us.pv g.st (Pv.below b),g.ok,g.v1,g.isv,g.len,g.hd⟩
theorem GS.read(g:GS X D w k cs U)(q:Qh X D (pgL 1 0 cs) w')(kk:Kp (SG X D) w w'):∃ f,GS X (D.hold f) w' k cs U∧Pv X D (D.hold f) w w'∧(D.hold f).R.held=some f:=by
  obtain⟨f,hb,hf,st⟩:=q
  have p:Pv X D (D.hold f) w w':=⟨kk.weaken fun _ e=>pu_sg g.st e,fun _ _ e=>e,rfl,rfl,rfl,rfl⟩
  have iv:Ivt X (D.hold f) k (pgL 1 0 cs):=by
    have i:=g.iv
    refine⟨.inl ⟨f,rfl,hb⟩,i.ll,i.fine,i.ws,i.blen,i.first,i.blocks,i.pos,i.c1,i.cnt,i.room,i.sy,i.last,i.wal,fun f' e=>?_,i.base,i.rc,i.asked,i.log,i.ep,i.gen,i.p0,i.pages⟩
    have e:some f=some f':=e
    injection e with e;subst e
    rcases hf with hf|⟨-,hf,-⟩
    · exact i.lsn f hf
    · show f.lsn≤D.J.last
      omega
  exact⟨f,⟨st,iv,g.tok.pv p,g.us.pv g.st p,g.ok,g.v1,g.isv,g.len,fun _=>⟨f,rfl⟩⟩,p,rfl⟩
def Marks(D:SD)(cs:List NC)(tx p:Nat)(cf:Nat→Int):Prop:=∀ c∈cs,∃ b q,(b=2∨b=3∨b=5)∧D.tm.lookup (nOf c:Int)=some (mk b q)∧cf (nOf c)=confN (decide ((nOf c:Int)=(tx:Int))) b q p
theorem claim_st{kn kc tx p i:Nat}{kA:Option Addr}{key:List UInt8}{cf:Nat→Int}(g:GS X D w k cs U)(hl:D.tm.lookup (tx:Int)=some (mk 2 p))(hm:Marks D cs tx p cf)
    (hr:Rd w w.heap.size kA key) (hkn:kn=key.length) (hk3:key.length≤3) (hi:BelowIs cs (txt key 0) i) :
    Calls Tryz.prog 69 #[.pointer (some ⟨X.s,0,none⟩),.int .i64 (tx:Int),.slice kA kn kc] w fun e w'=>∃ v vs,VsOf w' w.heap.size vs (scanTo cs i (txt key 1))∧vs.length≤60∧e=.returned (.tuple #[v,.int .i64 (claimN cf ((scanTo cs i (txt key 1)).map nOf))]) ∧
      (claimN cf ((scanTo cs i (txt key 1)).map nOf)=0→∃ n,w.heap.size≤n∧w'.ownsRow n 158 4 v vs.length (vX vs))∧Qh X D (pgL 1 0 cs) w'∧Kp (SG X D) w w':=by
  have hsub:∀ c∈scanTo cs i (txt key 1),c∈cs:=fun c hc=>List.mem_of_mem_drop (List.takeWhile_subset _ hc)
  have hsl:(scanTo cs i (txt key 1)).length≤60:=by
    have h1:(scanTo cs i (txt key 1)).length≤(cs.drop i).length:=List.Sublist.length_le (List.takeWhile_sublist _)
    have:=g.len
    rw[List.length_drop] at h1;omega
  have VG:=vers_g (kc:=kc) g.st g.iv.pg g.ok g.v1 (by rw[g.iv.base,g.iv.blen];decide) (by rw[g.iv.base];decide) g.len hr hkn hk3 g.isv hi
  refine(claim_g (P:=fun w' vs=>VsOf w' w.heap.size vs (scanTo cs i (txt key 1))) (N0:=w.heap.size) (tx:=tx) (p:=p) (m:=D.tm) (T:=D.T) (t:=X.B.t) cf (VG.mono fun e w' ⟨⟨v,n,vs,h1,h2,h3,h4⟩,h5,h6⟩=>⟨⟨v,n,vs,h1,h2,h3,h4,by rw[h4.1];exact hsl⟩,h5,h6⟩)
    (fun a b vs bb h=>⟨h.1,fun j h1 h2=>(h.2 j h1 h2).kp (Kp.of (S:=fun _=>False) bb) fun _ _ h=>h⟩) (fun a b bb q=>q.below bb) (fun w' q=>by
      obtain⟨f,-,-,st⟩:=q
      exact⟨⟨_,st.sb,rfl⟩,st.tb,by have:=st.tm;rw[← st.tw] at this;exact this⟩) hl (fun w' vs h x hx=>?_)).mono ?_
  · obtain⟨j,hj,rfl⟩:=List.getElem_of_mem hx
    have hjp:j<(scanTo cs i (txt key 1)).length:=by rw[← h.1];exact hj
    obtain⟨b,q,h1,h2,h3⟩:=hm _ (hsub _ (List.getElem_mem hjp))
    rw[(h.2 j hj hjp).n] at h2 h3
    exact⟨b,q,h1,h2,h3⟩
  · rintro e w' ⟨⟨v,vs,h1,h2,h3,h4⟩,h5,h6⟩
    rw[vs_map h1] at h3 h4
    exact⟨v,vs,h1,h2,h3,h4,h5,h6⟩
end
end Go.Proofs.YtdbkocfbhpgpkaaGreat
