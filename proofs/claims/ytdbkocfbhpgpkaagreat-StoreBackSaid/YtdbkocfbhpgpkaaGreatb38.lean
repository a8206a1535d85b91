/-
  store.New over a disk of 142 blocks.
-/
import Derived.Test.YtdbkocfbhpgpkaaGreatb26
set_option linter.unusedVariables false
set_option linter.unusedSimpArgs false
namespace Go.Proofs.YtdbkocfbhpgpkaaGreat
open Go Go.RowKit Go.Shelf
set_option maxRecDepth 100000
set_option maxHeartbeats 4000000
theorem tnew_any(w:World) :
    Calls Tryz.prog 160 #[.int .i64 1,.slice none 0 0] w fun e w'=>(∃ t who,e=.returned (.tuple #[.pointer (some ⟨t,0,none⟩),.int .i64 0])∧TB w' t ⟨1,1,0,who,.slice none 0 0⟩∧MapI w' who []∧w.heap.size≤t∧w.heap.size≤who)∧Below w.heap.size w w':=by
  have hmm:=@run_makeMap Tryz.prog
  obtain⟨W1,hW1,g1,b1,s1⟩:=box_alloc w (.map #[] 0)
  have m1:MapI W1 w.heap.size []:=by rw[← hW1];exact⟨#[],0,heap_alloc_new _ _,rfl,MapKept.stamped_empty 0⟩
  obtain⟨W2,hW2,g2,b2,s2⟩:=box_alloc W1 (.cells #[.pointer none,.int .i64 1,.int .i64 0,.int .i64 0,.map (some w.heap.size),.slice none 0 0,.slice none 0 0] 235)
  have c0:W2.cell? ⟨W1.heap.size,0,none⟩=some (.pointer none):=cellD g2 0
  have z0:W2.frozen? ⟨W1.heap.size,0,none⟩=false:=frozenD g2 0
  obtain⟨W3,hW3,g3,k3,s3⟩:=set_name 0 g2 (.pointer (some ⟨W1.heap.size,0,none⟩))
  have x2:W3.cell? ⟨W1.heap.size,2,none⟩=some (.int .i64 0):=cellD g3 2
  have y2:W3.frozen? ⟨W1.heap.size,2,none⟩=false:=frozenD g3 2
  have ST:=Store_any 1 x2 y2
  obtain⟨W4,hW4,g4,k4,s4⟩:=set_name 2 g3 (.int .i64 1)
  rw[hW4] at ST
  have m2:=m1.below b2
  have m3:=m2.kp k3 (m2.ne g2)
  have m4:=m3.kp k4 (m3.ne g3)
  have HS1:=Lib.hid s1
  have HS2:=Lib.hid s2
  clear s1 s2 s3 s4
  go_enter Tryz.func160,Tryz.ntmps160
  go_wp2
  go_loopw [7,27] (fun ah i wr=>i=.int .i64 0∧wr=W2) (fun _ _ _=>0)
  case atStart=>exact⟨rfl,rfl⟩
  case round=>
    obtain⟨rfl,rfl⟩:=hrel
    go_wp2_with (go_at_call 142;(with_reducible refine ST.mono ?_);rintro e w5 ⟨rfl,rfl⟩)
    go_ret2
    have z1:=b1.size
    have z2:=b2.size
    refine⟨⟨_,_,rfl,?_,m4,by omega,Nat.le_refl _⟩,((b1.trans (b2.mono z1)).trans (k3.below (Nat.le_trans z1 z2) fun k hk e=>by have:k=W1.heap.size:=e;omega)).trans (k4.below (Nat.le_trans (Nat.le_trans z1 z2) k3.size) fun k hk e=>by have:k=W1.heap.size:=e;omega)⟩
    unfold TB;rw[g4];rfl
def hd0:Hd:=⟨60,1,0,1,1,[],[]⟩
theorem hd0_ok:OkH hd0:=by
  constructor<;>first | decide | (intro x hx;simp[hd0] at hx)
theorem snew_any{w:World}{N d db nf:Nat}{P:PD}(h:Dk (fun _=>False) w N d db (.slice none 0 0) P)(hP:P.bs.length=142)(hd:N≤d)(hdb:N≤db)(h7:2≤nf)(h8:nf≤200) :
    Calls Tryz.prog 62 #[.pointer (some ⟨d,0,none⟩),.agg #[.int .i64 60,.int .i64 1,.int .i64 0,.int .i64 1,.int .i64 1,.slice none 0 0,.slice none 0 0],.int .i64 1,.int .i64 2,.int .i64 (nf:Int)] w fun e w'=>
      (∃ X D,e=.returned (.tuple #[.pointer (some ⟨X.s,0,none⟩),.int .i64 0])∧StW X D w'∧X.B.d=d∧X.n0=N∧Hi X ∧
        D=⟨⟨60,1,1,0⟩,⟨2,60,1,0,1,0,.slice none 0 0,[],0,0⟩,⟨62,80,1,2,.func (.func 158) #[.pointer (some ⟨X.s,0,none⟩)] #[],none,nf⟩,false,⟨1,1,0,X.who,.slice none 0 0⟩,[],[],[],.slice none 0 0,P⟩)∧Below w.heap.size w w':=by
  have hmm:=@run_makeMap Tryz.prog
  have n1:decide ((nf:Int)<2)=false:=by simp;omega
  have n2:decide ((256:Int)<(nf:Int))=false:=by simp;omega
  have n3:¬nf<2:=by omega
  have n4:¬256<nf:=by omega
  have hmf:∀ (fn:Fn) (first cap:Array Value) (w:World),(Instr.makeFunc fn first cap).run Tryz.prog w=.ok (.func fn first cap) w:=fun _ _ _ _=>rfl
  obtain⟨W1,hW1,g1,b1,s1⟩:=box_alloc w (.cells #[.int .i64 60,.int .i64 1,.int .i64 0,.int .i64 1,.int .i64 1,.slice none 0 0,.slice none 0 0] 73)
  have B0:=fun w' (b:Below W1.heap.size W1 w')=>blocks_any ((h.below b1).below b).box
  simp only[hP] at B0
  have B1:=B0 W1 (Below.refl _ _)
  have RH:∀ w',Below W1.heap.size W1 w'→Calls Tryz.prog 155 #[.agg #[.int .i64 60,.int .i64 1,.int .i64 0,.int .i64 1,.int .i64 1,.slice none 0 0,.slice none 0 0]] w' fun e w2=>e=.returned (.bool true)∧Below w'.heap.size w' w2:=fun w' (b:Below W1.heap.size W1 w')=>right_ok hd0 hd0_ok none none 0 0 0 0 w' (RdI.nil _ _ _) (RdI.nil _ _ _) rfl rfl
  have HB0:=Lib.hid B0
  have HS1:=Lib.hid s1
  clear s1 B0
  go_enter Tryz.func62,Tryz.ntmps62
  go_upto_region 3 with (go_at_call 129;(with_reducible refine B1.mono ?_);rintro e w1 ⟨rfl,rfl⟩)
  have bd:=below_drew w1
  have gD:=keepB bd g1
  have S0:(w1.drew.cell? ⟨w.heap.size,0,none⟩=some (.int .i64 60)∧w1.drew.cell? ⟨w.heap.size,1,none⟩=some (.int .i64 1)∧w1.drew.cell? ⟨w.heap.size,2,none⟩=some (.int .i64 0)∧w1.drew.cell? ⟨w.heap.size,3,none⟩=some (.int .i64 1)∧w1.drew.cell? ⟨w.heap.size,4,none⟩=some (.int .i64 1)∧w1.drew.cell? ⟨w.heap.size,5,none⟩=some (.slice none 0 0)∧w1.drew.cell? ⟨w.heap.size,6,none⟩=some (.slice none 0 0)):=⟨cellD gD 0,cellD gD 1,cellD gD 2,cellD gD 3,cellD gD 4,cellD gD 5,cellD gD 6⟩
  have SA:=Lib.hid (fun w2 (b:Below w1.drew.heap.size w1.drew w2)=>(⟨cellD (keepB b gD) 0,cellD (keepB b gD) 1,cellD (keepB b gD) 2,cellD (keepB b gD) 3,cellD (keepB b gD) 4,cellD (keepB b gD) 5,cellD (keepB b gD) 6⟩:(w2.cell? ⟨w.heap.size,0,none⟩=some (.int .i64 60)∧w2.cell? ⟨w.heap.size,1,none⟩=some (.int .i64 1)∧w2.cell? ⟨w.heap.size,2,none⟩=some (.int .i64 0)∧w2.cell? ⟨w.heap.size,3,none⟩=some (.int .i64 1)∧w2.cell? ⟨w.heap.size,4,none⟩=some (.int .i64 1)∧w2.cell? ⟨w.heap.size,5,none⟩=some (.slice none 0 0)∧w2.cell? ⟨w.heap.size,6,none⟩=some (.slice none 0 0))))
  have RHD:=RH w1.drew bd
  go_region_held3 (fun w2=>w2.cell? ⟨w.heap.size,0,none⟩=some (.int .i64 60)∧w2.cell? ⟨w.heap.size,1,none⟩=some (.int .i64 1)∧w2.cell? ⟨w.heap.size,2,none⟩=some (.int .i64 0)∧w2.cell? ⟨w.heap.size,3,none⟩=some (.int .i64 1)∧w2.cell? ⟨w.heap.size,4,none⟩=some (.int .i64 1)∧w2.cell? ⟨w.heap.size,5,none⟩=some (.slice none 0 0)∧w2.cell? ⟨w.heap.size,6,none⟩=some (.slice none 0 0))
    (first | with_reducible exact S0 | with_reducible exact S2)
    (first
      | (go_at_call 155;(with_reducible refine RHD.mono ?_);rintro e w2 ⟨rfl,b2⟩;have S2:=SA.out w2 b2;have B2:=HB0.out w2 (bd.trans b2))
      | (go_at_call 129;(with_reducible refine B2.mono ?_);rintro e w2' ⟨rfl,rfl⟩)
      | fail)
  have e80:decide (IntKind.i64.wrap (IntKind.i64.wrap 140-60)<8)=false:=by kernel_rfl
  rw[e80]
  have b12:=bd.trans b2
  obtain⟨w3,rfl⟩:∃ w3,w3=w2':=⟨_,rfl⟩
  have h3:=(h.below b1).below b12
  have q3:=keepB b12 g1
  obtain⟨W3,hW3,g3,b3,s3⟩:=box_alloc w3 (.map #[] 0)
  have m3:MapI W3 w3.heap.size []:=by rw[← hW3];exact⟨#[],0,heap_alloc_new _ _,rfl,MapKept.stamped_empty 0⟩
  obtain⟨W4,hW4,g4,b4,s4⟩:=box_alloc W3 (.cells #[.pointer none,.pointer (some ⟨d,0,none⟩),.int .i64 60,.int .i64 1,.int .i64 0,.int .i64 0,.int .i64 0,.slice none 0 0,.slice none 0 0,.int .i64 1,.pointer none,.pointer none,.pointer none,.pointer none,.map (some w3.heap.size),.int .i64 0,.bool false] 125)
  have k0:W4.cell? ⟨W3.heap.size,0,none⟩=some (.pointer none):=cellD g4 0
  have z0:W4.frozen? ⟨W3.heap.size,0,none⟩=false:=frozenD g4 0
  obtain⟨W5,hW5,g5,k5,s5⟩:=set_name 0 g4 (.pointer (some ⟨W3.heap.size,0,none⟩))
  have c0:w3.cell? ⟨w.heap.size,0,none⟩=some (.int .i64 60):=cellD q3 0
  have c1:w3.cell? ⟨w.heap.size,1,none⟩=some (.int .i64 1):=cellD q3 1
  have HS3:=Lib.hid s3
  have HS4:=Lib.hid s4
  have HS5:=Lib.hid s5
  clear s3 s4 s5 S0 SA RHD RH e80 gD
  go_upto_region 10 with fail
  have z3:=b3.size
  have z4:=b4.size
  have zs3:=HS3.out
  have b35:Below w3.heap.size w3 W5:=(b3.trans (b4.mono z3)).trans (k5.below (Nat.le_trans z3 z4) fun k hk e=>by have:k=W3.heap.size:=e;omega)
  have h5:=h3.below b35
  have q5:=keepB b35 q3
  have m5:=(m3.below b4).kp k5 ((m3.below b4).ne g4)
  have JN:Calls Tryz.prog 156 #[.pointer (some ⟨d,0,none⟩),.int .i64 2,.int .i64 60,.int .i64 1,.int .i64 0,.int .i64 1] W5 (fun e w'=>(∃ j,e=.returned (.tuple #[.pointer (some ⟨j,0,none⟩),.int .i64 0])∧JB w' j d ⟨2,60,1,0,1,0,.slice none 0 0,[],0,0⟩∧W5.heap.size≤j)∧Below W5.heap.size W5 w'):=jnew_any (f:=2) (b:=60) (ep:=1) h5 (by decide) (by decide) (by omega) (by omega) (by decide) (by decide)
  have x0:W5.cell? ⟨w.heap.size,0,none⟩=some (.int .i64 60):=cellD q5 0
  have x1:W5.cell? ⟨w.heap.size,1,none⟩=some (.int .i64 1):=cellD q5 1
  have x2:W5.cell? ⟨w.heap.size,2,none⟩=some (.int .i64 0):=cellD q5 2
  have x3:W5.cell? ⟨w.heap.size,3,none⟩=some (.int .i64 1):=cellD q5 3
  have HDk:=Lib.hid (fun w' (b:Below w3.heap.size w3 w')=>h3.below b)
  have HM5:=Lib.hid m5
  clear h5 m5 h3 m3 hW1 hW3 hW4 hW5 k0 z0 g3 g4 k5 b3 b4 c0 c1 z3 z4 zs3 B1
  go_upto_region 11 with (go_at_call 156;(with_reducible refine JN.mono ?_);rintro e w6 ⟨⟨j,rfl,j6,jl⟩,b6⟩;have g6:=keepB b6 g5;have y10:w6.cell? ⟨W3.heap.size,10,none⟩=some (.pointer none):=cellD g6 10;have f10:w6.frozen? ⟨W3.heap.size,10,none⟩=false:=frozenD g6 10;obtain⟨W7,hW7,g7,k7,s7⟩:=set_name 10 g6 (.pointer (some ⟨j,0,none⟩)))
  have b37:Below w3.heap.size w3 W7:=(b35.trans (b6.mono b35.size)).trans (k7.below (Nat.le_trans b35.size b6.size) fun k hk e=>by have:k=W3.heap.size:=e;have:=HS3.out;omega)
  have j7:JB W7 j d ⟨2,60,1,0,1,0,.slice none 0 0,[],0,0⟩:=k7.keep j6 (tag_ne j6 g6 (by decide))
  have m7:=(HM5.out.below b6).kp k7 ((HM5.out.below b6).ne g6)
  have q7:=keepB b37 q3
  have x0:W7.cell? ⟨w.heap.size,0,none⟩=some (.int .i64 60):=cellD q7 0
  have HJ7:=Lib.hid j7
  have HM7:=Lib.hid m7
  have HJL:=Lib.hid jl
  clear JN x1 x2 x3 j6 hW7 y10 f10 k7 s7 b6 g6 g5 q5 j7 m7 jl HM5
  go_upto_region 14 with fail
  have bd7:=below_drew W7
  have q7D:=keepB bd7 q7
  have y1:W7.drew.cell? ⟨w.heap.size,1,none⟩=some (.int .i64 1):=cellD q7D 1
  have BK:Calls Tryz.prog 129 #[.pointer (some ⟨d,0,none⟩)] W7.drew fun e w'=>e=.returned (.int .i64 142)∧w'=W7.drew:=by
    have:=blocks_any (HDk.out _ (b37.trans (bd7.mono b37.size))).box
    rw[hP] at this
    exact this
  have hw80:IntKind.i64.wrap (142-62)=80:=by kernel_rfl
  have hw80':IntKind.i64.wrap 80=80:=by kernel_rfl
  have PN:Calls Tryz.prog 157 #[.pointer (some ⟨d,0,none⟩),.int .i64 62,.int .i64 80,.int .i64 (nf:Int),.int .i64 1,.int .i64 2,.func (.func 158) #[.pointer (some ⟨W3.heap.size,0,none⟩)] #[]] W7.drew fun e w'=>(∃ p m,e=.returned (.tuple #[.pointer (some ⟨p,0,none⟩),.int .i64 0])∧PB (fun _=>False) w' p d m ⟨62,80,1,2,.func (.func 158) #[.pointer (some ⟨W3.heap.size,0,none⟩)] #[],none,nf⟩∧W7.drew.heap.size≤p∧W7.drew.heap.size≤m)∧Below W7.drew.heap.size W7.drew w':=pnew_any (base:=62) (pages:=80) (ep:=1) (q:=2) (HDk.out _ (b37.trans (bd7.mono b37.size))) (by decide) (by omega) (by omega) (by decide) (by decide) (by decide) h7 h8
  have g7D:=keepB bd7 g7
  have AF:=Lib.hid (fun w2 (b:Below W7.drew.heap.size W7.drew w2)=>And.intro (cellD (keepB b q7D) 1) (keepB b g7D))
  go_region_held3 (fun w2=>w2.cell? ⟨w.heap.size,1,none⟩=some (.int .i64 1))
    (first | with_reducible exact y1 | with_reducible exact y2 | with_reducible exact y3)
    (first
      | (go_at_call 129;(with_reducible refine BK.mono ?_);rintro e w8' ⟨rfl,rfl⟩)
      | (go_at_call 157;(with_reducible refine PN.mono ?_);rintro e w8 ⟨⟨p,m,rfl,p8,pl,ml⟩,b8⟩;have y2:w8.cell? ⟨w.heap.size,1,none⟩=some (.int .i64 1):=(AF.out w8 b8).1;have g8:=(AF.out w8 b8).2;have y11:w8.cell? ⟨W3.heap.size,11,none⟩=some (.pointer none):=cellD g8 11;have f11:w8.frozen? ⟨W3.heap.size,11,none⟩=false:=frozenD g8 11;obtain⟨W9,hW9,g9,k9,s9⟩:=set_name 11 g8 (.pointer (some ⟨p,0,none⟩));have y3:W9.cell? ⟨w.heap.size,1,none⟩=some (.int .i64 1):=(cell_same (k9.block _ (hlt (keepB b8 q7D)) (fun e=>tag_ne q7D g7D (by decide) e)) 1).trans y2)
      | fail)
  all_goals
    have b38:Below w3.heap.size w3 w8:=(b37.trans (bd7.mono b37.size)).trans (b8.mono b37.size)
    have b39:Below w3.heap.size w3 W9:=b38.trans (k9.below b38.size fun k hk e=>by have:k=W3.heap.size:=e;have:=HS3.out;omega)
    have p9:=p8.kp (Z':=fun _=>False) k9 (fun e=>tag_ne p8.box g8 (by decide) e) (fun e=>p8.map.ne g8 e) (fun f e=>nomatch e) (fun _ _ h=>h)
    have j8:=keepB b8 (keepB bd7 HJ7.out)
    have j9:JB W9 j d ⟨2,60,1,0,1,0,.slice none 0 0,[],0,0⟩:=k9.keep j8 (tag_ne j8 g8 (by decide))
    have m8:=(HM7.out.below bd7).below b8
    have m9:=m8.kp k9 (m8.ne g8)
    have q9:=keepB b39 q3
    have bd9:=below_drew W9
    have g9D:=keepB bd9 g9
    have S0:(W9.drew.cell? ⟨W3.heap.size,11,none⟩=some (.pointer (some ⟨p,0,none⟩))∧W9.drew.cell? ⟨W3.heap.size,10,none⟩=some (.pointer (some ⟨j,0,none⟩))):=⟨cellD g9D 11,cellD g9D 10⟩
    have AN:=anew_any (p9.below bd9) (show JB W9.drew j d ⟨2,60,1,0,1,0,.slice none 0 0,[],0,0⟩ from keepB bd9 j9) (by decide)
    have AF2:=Lib.hid (fun w2 (b:Below W9.drew.heap.size W9.drew w2)=>keepB b g9D)
    have HK:=Lib.hid (And.intro p9 (And.intro j9 (And.intro m9 (And.intro b39 (And.intro pl (And.intro ml (And.intro b8.size HJL.out)))))))
    clear p8 p9 j8 j9 m8 m9 g8 y11 f11 hW9 k9 s9 y3 y2 y1 x0 PN BK AF b8 b38 g7D q7D q7 g7 bd7 pl ml
    go_upto_region 17 with fail
    go_region_held3 (fun w2=>w2.cell? ⟨W3.heap.size,11,none⟩=some (.pointer (some ⟨p,0,none⟩))∧w2.cell? ⟨W3.heap.size,10,none⟩=some (.pointer (some ⟨j,0,none⟩)))
      (first | with_reducible exact S0 | with_reducible exact S2 | with_reducible exact S3)
      (first
        | (go_at_call 159;(with_reducible refine AN.mono ?_);rintro e w10 ⟨⟨a,im,rfl,a10,al,iml⟩,b10⟩;have g10:=AF2.out w10 b10;have S2:(w10.cell? ⟨W3.heap.size,11,none⟩=some (.pointer (some ⟨p,0,none⟩))∧w10.cell? ⟨W3.heap.size,10,none⟩=some (.pointer (some ⟨j,0,none⟩))):=⟨cellD g10 11,cellD g10 10⟩;have y12:w10.cell? ⟨W3.heap.size,12,none⟩=some (.pointer none):=cellD g10 12;have f12:w10.frozen? ⟨W3.heap.size,12,none⟩=false:=frozenD g10 12;obtain⟨W11,hW11,g11,k11,s11⟩:=set_name 12 g10 (.pointer (some ⟨a,0,none⟩));have S3:(W11.cell? ⟨W3.heap.size,11,none⟩=some (.pointer (some ⟨p,0,none⟩))∧W11.cell? ⟨W3.heap.size,10,none⟩=some (.pointer (some ⟨j,0,none⟩))):=⟨cellD g11 11,cellD g11 10⟩)
        | fail)
  all_goals
    obtain⟨p9,j9,m9,b39,pl,ml,z8,jl⟩:=HK.out
    have b310:Below w3.heap.size w3 w10:=(b39.trans (bd9.mono b39.size)).trans (b10.mono b39.size)
    have b311:Below w3.heap.size w3 W11:=b310.trans (k11.below b310.size fun k hk e=>by have:k=W3.heap.size:=e;have:=HS3.out;omega)
    have p10:=(p9.below bd9).below b10
    have p11:=p10.kp (Z':=fun _=>False) k11 (fun e=>tag_ne p10.box g10 (by decide) e) (fun e=>p10.map.ne g10 e) (fun f e=>nomatch e) (fun _ _ h=>h)
    have j10:=keepB b10 (keepB bd9 j9)
    have j11:JB W11 j d ⟨2,60,1,0,1,0,.slice none 0 0,[],0,0⟩:=k11.keep j10 (tag_ne j10 g10 (by decide))
    have m10:=(m9.below bd9).below b10
    have m11:=m10.kp k11 (m10.ne g10)
    have a11:=a10.kp k11 (fun e=>tag_ne a10.box g10 (by decide) e) (fun e=>a10.map.ne g10 e)
    have q11:=keepB b311 q3
    have x4:W11.cell? ⟨w.heap.size,4,none⟩=some (.int .i64 1):=cellD q11 4
    have x6:W11.cell? ⟨w.heap.size,6,none⟩=some (.slice none 0 0):=cellD q11 6
    have TN:=tnew_any W11
    have hml:=p9.map.lt
    have himl:=a10.map.lt
    have z10:W9.heap.size≤w10.heap.size:=b10.size
    have z11:=k11.size
    have z7:=b37.size
    have z5:=b35.size
    have HF:=Lib.hid (And.intro p11 (And.intro j11 (And.intro m11 (And.intro a11 (And.intro b311 (And.intro pl (And.intro ml (And.intro z8 (And.intro jl (And.intro al (And.intro iml (And.intro hml (And.intro himl (And.intro z10 (And.intro z11 (And.intro z7 (And.intro z5 (And.intro m9.lt HM7.out.lt))))))))))))))))))
    clear p9 j9 m9 b39 pl ml z8 jl p10 p11 j10 j11 m10 m11 a11 q11 b310 b311 hml himl z10 z11 z7 z5 HK S0 S2 S3 AN AF2 y12 f12 hW11 s11 g9D g9 g10 bd9 b10 al iml a10
    go_wp2_with (go_at_call 160;(with_reducible refine TN.mono ?_);rintro e w12 ⟨⟨t,who,rfl,t12,mw12,tl,wl⟩,b12'⟩;have g12:=keepB b12' g11;have y13:w12.cell? ⟨W3.heap.size,13,none⟩=some (.pointer none):=cellD g12 13;have f13:w12.frozen? ⟨W3.heap.size,13,none⟩=false:=frozenD g12 13;obtain⟨W13,hW13,g13,k13,s13⟩:=set_name 13 g12 (.pointer (some ⟨t,0,none⟩)))
    go_ret2
    obtain⟨p11,j11,m11,a11,b311,pl,ml,z8,jl,al,iml,hml,himl,z10,z11,z7,z5,zm9,zm7⟩:=HF.out
    have zb:=h.base
    have zw:w.heap.size≤w3.heap.size:=Nat.le_trans b1.size b12.size
    have zs:=HS3.out
    have z12:=b12'.size
    have e7:W7.drew.heap.size=W7.heap.size:=rfl
    have e9:W9.drew.heap.size=W9.heap.size:=rfl
    have b312:Below w3.heap.size w3 w12:=b311.trans (b12'.mono b311.size)
    have b313:Below w3.heap.size w3 W13:=b312.trans (k13.below b312.size fun k hk e=>by have:k=W3.heap.size:=e;omega)
    have p12:=p11.below b12'
    have j12:=keepB b12' j11
    have m12:=m11.below b12'
    have a12:=a11.below b12'
    have nz:∀ g,¬Zj ⟨2,60,1,0,1,0,.slice none 0 0,[],0,0⟩ g:=fun g e=>by cases (show(Value.slice none 0 0).ownBlock=some g from e)
    refine⟨⟨⟨W3.heap.size,⟨d,j,p,a,t,w3.heap.size⟩,m,im,db,N,who⟩,_,rfl,?_,rfl,rfl,?_,rfl⟩,(b1.trans (b12.mono b1.size)).trans (b313.mono zw)⟩
    · refine⟨?_,k13.keep j12 (tag_ne j12 g12 (by decide)),Own.nil _ _,p12.kp k13 (fun e=>tag_ne p12.box g12 (by decide) e) (fun e=>p12.map.ne g12 e) (fun f e=>nomatch e) (fun g _ e=>absurd e (nz g)),a12.kp k13 (fun e=>tag_ne a12.box g12 (by decide) e) (fun e=>a12.map.ne g12 e),(HDk.out _ b313).other (Kp.refl (fun _=>False) _) (fun g o e=>e.elim) (fun g _ e=>absurd e (nz g)) (fun g e=>absurd e (nz g)),k13.keep t12 (tag_ne t12 g12 (by decide)),rfl,mw12.kp k13 (mw12.ne g12),World.ownsRow_nil _ _ _ _,m12.kp k13 (m12.ne g12),?_,?_,?_,?_,?_,?_,fun f e=>nomatch e⟩
      · unfold SB;rw[g13];rfl
      all_goals (dsimp only;omega)
    · constructor<;>(dsimp only;omega)
end Go.Proofs.YtdbkocfbhpgpkaaGreat
