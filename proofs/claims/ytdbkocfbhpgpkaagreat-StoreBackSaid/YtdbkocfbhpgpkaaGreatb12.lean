/-
  atom: Get, Set, Changed, New.
-/
import Derived.Test.YtdbkocfbhpgpkaaGreatb09
import Derived.Test.YtdbkocfbhpgpkaaGreatb10
import Derived.Test.YtdbkocfbhpgpkaaGreatb11
import Derived.Tactics2
import Derived.Defers
import Derived.Laws.Pointers
import Derived.Laws.LoneSync
import Derived.Laws.NewBlocks
import Derived.RegionTactic
import Derived.RegionCalls
import Derived.ChangeAlike
set_option linter.unusedVariables false
set_option linter.unusedSimpArgs false
namespace Go.Proofs.YtdbkocfbhpgpkaaGreat
open Go Go.RowKit
set_option maxRecDepth 100000
set_option maxHeartbeats 1600000
def imM (b:Bool):List (Int×Value):=if b then[(1,.agg #[])] else[]
structure AB(w:World)(a p j im:Nat)(b:Bool):Prop where
  box:w.heap[a]? = some (.cells #[.pointer (some ⟨a,0,none⟩),.pointer (some ⟨p,0,none⟩),.pointer (some ⟨j,0,none⟩),.map (some im),.bool false] 251 (0,0))
  map:MapI w im (imM b)
def sM (X:Option (Value×List UInt8)):List (Int×Value):=match X with | none=>[] | some u=>[(1,u.1)]
structure XB(Z:Nat→Prop)(w:World)(x a s:Nat)(X:Option (Value×List UInt8)):Prop where
  box:w.heap[x]? = some (.cells #[.pointer (some ⟨x,0,none⟩),.pointer (some ⟨a,0,none⟩),.map (some s),.int .u32 0,.int .i32 0,.int .u32 0,.bool false] 276 (0,0))
  map:MapI w s (sM X)
  pay:∀ u,X=some u→Own w 0 u.1 u.2∧u.2.length=4080∧∀ k,u.1.ownBlock=some k→¬Z k
section
variable {Z:Nat→Prop}{w:World}{p d m a j im x s:Nat}{R:PR}{b:Bool}{X:Option (Value×List UInt8)}
theorem AB.kp{S:Nat→Prop}{w':World}(h:AB w a p j im b)(k:Kp S w w')(h0:¬S a)(hm:¬S im):AB w' a p j im b:=⟨k.keep h.box h0,h.map.kp k hm⟩
theorem AB.below{w':World}(h:AB w a p j im b)(hb:Below w.heap.size w w'):AB w' a p j im b:=h.kp (Kp.of (S:=fun _=>False) hb) id id
theorem XB.kp{S Z':Nat→Prop}{w':World}(h:XB Z w x a s X)(k:Kp S w w')(h0:¬S x)(hm:¬S s)(h1:∀ u,X=some u→∀ g,u.1.ownBlock=some g→¬S g)(h3:∀ g,g<w.heap.size→Z' g→Z g):XB Z' w' x a s X:=
  ⟨k.keep h.box h0,h.map.kp k hm,fun u e=>⟨(h.pay u e).1.kp k (h1 u e),(h.pay u e).2.1,fun g e1 e2=>(h.pay u e).2.2 g e1 (h3 g ((h.pay u e).1.lt g e1) e2)⟩⟩
theorem XB.below{w':World}(h:XB Z w x a s X)(hb:Below w.heap.size w w'):XB Z w' x a s X:=h.kp (Kp.of (S:=fun _=>False) hb) id id (fun _ _ _ _=>id) (fun _ _ h=>h)
theorem infoA:(Tryz.prog.info? 251).isSome=true:=by kernel_rfl
theorem infoX:(Tryz.prog.info? 276).isSome=true:=by kernel_rfl
theorem eqlA(w:World)(a:Addr):(binOp .eql 121 (.pointer (some a)) (.pointer (some a))).run Tryz.prog w=.ok (.bool true) w:=by
  obtain⟨j,hj⟩:=Option.isSome_iff_exists.1 infoA
  exact run_eql_ptr_same w a Tryz.underlying121 hj
theorem eqlX(w:World)(a:Addr):(binOp .eql 152 (.pointer (some a)) (.pointer (some a))).run Tryz.prog w=.ok (.bool true) w:=by
  obtain⟨j,hj⟩:=Option.isSome_iff_exists.1 infoX
  exact run_eql_ptr_same w a Tryz.underlying152 hj
theorem amade_any(h:AB w a p j im b):Calls Tryz.prog 177 #[.pointer (some ⟨a,0,none⟩)] w fun e w'=>e=.returned (.bool true)∧w'=w:=by
  have c0:w.cell? ⟨a,0,none⟩=some (.pointer (some ⟨a,0,none⟩)):=cellD h.box 0
  have he:=fun w=>eqlA w ⟨a,0,none⟩
  go_enter Tryz.func177,Tryz.ntmps177
  go_wp2
  go_ret
  exact⟨rfl,rfl⟩
theorem xmade_any(h:XB Z w x a s X):Calls Tryz.prog 276 #[.pointer (some ⟨x,0,none⟩)] w fun e w'=>e=.returned (.bool true)∧w'=w:=by
  have c0:w.cell? ⟨x,0,none⟩=some (.pointer (some ⟨x,0,none⟩)):=cellD h.box 0
  have he:=fun w=>eqlX w ⟨x,0,none⟩
  go_enter Tryz.func276,Tryz.ntmps276
  go_wp2
  go_ret
  exact⟨rfl,rfl⟩
theorem abroken_any(h:AB w a p j im b):Calls Tryz.prog 123 #[.pointer (some ⟨a,0,none⟩)] w fun e w'=>e=.returned (.bool false)∧w'=w:=by
  have M:=amade_any h
  have c4:w.cell? ⟨a,4,none⟩=some (.bool false):=cellD h.box 4
  go_enter Tryz.func123,Tryz.ntmps123
  go_wp2_with (go_at_call 177;(with_reducible refine M.mono ?_);rintro e w ⟨rfl,rfl⟩)
  go_ret
  exact⟨rfl,rfl⟩
theorem xstands_any(h:XB Z w x a s X)(h2:AB w a p j im b):Calls Tryz.prog 273 #[.pointer (some ⟨x,0,none⟩)] w fun e w'=>e=.returned (.int .i64 0)∧w'=w:=by
  have M:=xmade_any h
  have c6:w.cell? ⟨x,6,none⟩=some (.bool false):=cellD h.box 6
  have c1:w.cell? ⟨x,1,none⟩=some (.pointer (some ⟨a,0,none⟩)):=cellD h.box 1
  have c4:w.cell? ⟨a,4,none⟩=some (.bool false):=cellD h2.box 4
  go_enter Tryz.func273,Tryz.ntmps273
  go_wp2_with (go_at_call 276;(with_reducible refine M.mono ?_);rintro e w ⟨rfl,rfl⟩)
  go_ret
  exact⟨rfl,rfl⟩
theorem xpages_any(h:XB Z w x a s X)(h2:AB w a p j im b)(h3:PB Z w p d m R):Calls Tryz.prog 244 #[.pointer (some ⟨x,0,none⟩)] w fun e w'=>e=.returned (.int .i64 (R.pages:Int))∧w'=w:=by
  have M:=xmade_any h
  have M2:=ppages_any h3
  have c1:w.cell? ⟨x,1,none⟩=some (.pointer (some ⟨a,0,none⟩)):=cellD h.box 1
  have d1:w.cell? ⟨a,1,none⟩=some (.pointer (some ⟨p,0,none⟩)):=cellD h2.box 1
  go_enter Tryz.func244,Tryz.ntmps244
  go_wp2_with (first
    | (go_at_call 276;(with_reducible refine M.mono ?_);rintro e w ⟨rfl,rfl⟩)
    | (go_at_call 231;(with_reducible refine M2.mono ?_);rintro e w ⟨rfl,rfl⟩))
  go_ret
  exact⟨rfl,rfl⟩
theorem abegin_any(h:AB w a p j im b):Calls Tryz.prog 87 #[.pointer (some ⟨a,0,none⟩)] w fun e w'=>(∃ x s,e=.returned (.pointer (some ⟨x,0,none⟩))∧XB Z w' x a s none∧w.heap.size≤x∧w.heap.size≤s)∧Below w.heap.size w w':=by
  have M:=amade_any h
  obtain⟨W1,hW1,g1,b1,s1⟩:=box_alloc w (.map #[] 0)
  have m1:MapI W1 w.heap.size []:=by rw[← hW1];exact⟨#[],0,heap_alloc_new _ _,rfl,MapKept.stamped_empty 0⟩
  obtain⟨W2,hW2,g2,b2,s2⟩:=box_alloc W1 (.cells #[.pointer none,.pointer (some ⟨a,0,none⟩),.map (some w.heap.size),.int .u32 0,.int .i32 0,.int .u32 0,.bool false] 276)
  have c0:W2.cell? ⟨W1.heap.size,0,none⟩=some (.pointer none):=cellD g2 0
  have z0:W2.frozen? ⟨W1.heap.size,0,none⟩=false:=frozenD g2 0
  obtain⟨W3,hW3,g3,k3,s3⟩:=set_name 0 g2 (.pointer (some ⟨W1.heap.size,0,none⟩))
  have HS1:=Lib.hid s1
  have HS2:=Lib.hid s2
  clear s1 s2 s3
  have hmm:=@run_makeMap Tryz.prog
  go_enter Tryz.func87,Tryz.ntmps87
  go_wp2_with (go_at_call 177;(with_reducible refine M.mono ?_);rintro e w ⟨rfl,rfl⟩)
  go_ret
  refine⟨⟨_,_,rfl,⟨g3,((m1.below b2).kp k3 ((m1.below b2).ne g2)),fun u e=>(nomatch e)⟩,b1.size,Nat.le_refl _⟩,(b1.trans (b2.mono b1.size)).trans (k3.below (Nat.le_trans b1.size b2.size) fun k hk e=>by have:=b1.size;omega)⟩
theorem afresh_any(h:AB w a p j im b):Calls Tryz.prog 79 #[.pointer (some ⟨a,0,none⟩)] w fun e w'=>(∃ n:Nat,e=.returned (.int .i64 (n:Int)))∧AB w' a p j im false∧Kp (·=im) w w':=by
  have M:=amade_any h
  have c3:w.cell? ⟨a,3,none⟩=some (.map (some im)):=cellD h.box 3
  have L:=fun ty=>run_len_int (P:=Tryz.prog) (ht:=Tryz.underlying249) h.map ty
  obtain⟨W3,hU,m3,o3,s3,os3,t3,u3⟩:=run_clear_int (P:=Tryz.prog) Tryz.underlying249 h.map 0
  have k3:Kp (·=im) w W3:=⟨os3,t3,u3,Nat.le_of_eq s3.symm,fun k _ hk=>o3 k hk⟩
  clear o3 s3 os3 t3 u3
  go_enter Tryz.func79,Tryz.ntmps79
  go_wp2_with (go_at_call 177;(with_reducible refine M.mono ?_);rintro e w ⟨rfl,rfl⟩)
  go_ret
  exact⟨⟨_,rfl⟩,⟨k3.keep h.box (fun e=>h.map.ne h.box e.symm),m3⟩,k3⟩
end
theorem raceOff(w:World):(callFunc 363 #[]).run Tryz.prog w=.ok (.value (.tuple #[])) w:=run_call_mark0 Tryz.func363 (by kernel_rfl) (by kernel_rfl) (by kernel_rfl) .disable (by kernel_rfl) w
theorem raceOn(w:World):(callFunc 365 #[]).run Tryz.prog w=.ok (.value (.tuple #[])) w:=run_call_mark0 Tryz.func365 (by kernel_rfl) (by kernel_rfl) (by kernel_rfl) .enable (by kernel_rfl) w
theorem raceAcq(a:Addr)(w:World):(callFunc 366 #[.pointer (some a)]).run Tryz.prog w=.ok (.value (.tuple #[])) w:=run_call_marked Tryz.func366 (by kernel_rfl) (by kernel_rfl) (by kernel_rfl) .acquire (by kernel_rfl) a w
theorem raceRel(a:Addr)(w:World):(callFunc 368 #[.pointer (some a)]).run Tryz.prog w=.ok (.value (.tuple #[])) w:=run_call_marked Tryz.func368 (by kernel_rfl) (by kernel_rfl) (by kernel_rfl) .releaseMerge (by kernel_rfl) a w
theorem store_deferred(a:Addr)(x:Value)(u:FrameMode)(w:World)(hc:w.cell? a=some x)(hz:w.frozen? a=false) :
    CallsD Tryz.prog 353 #[.pointer (some a),.bool true] u w fun e u' w'=>u'=u∧(e=.returned (.tuple #[])∧w'=w.drew.setCell a (.int .u32 1)):=by
  have hc':w.drew.cell? a=some x:=by go_simp
  have hz':w.drew.frozen? a=false:=by go_simp
  have hst:=run_call_store (P:=Tryz.prog) Tryz.func360 (by kernel_rfl) (by kernel_rfl) (by kernel_rfl) (by kernel_rfl) (k:=.u32) (y:=1) hc' hz'
  go_enter_d Tryz.func353,Tryz.ntmps353
  go_wp2
  go_region_calls
  all_goals (go_end0;exact⟨rfl,rfl⟩)
theorem unlock_deferred(a:Addr)(u:FrameMode)(w:World)(hc:w.cell? a=some (.int .i32 1))(hz:w.frozen? a=false) :
    CallsD Tryz.prog 352 #[.pointer (some a)] u w fun e u' w'=>u'=u∧(e=.returned (.tuple #[])∧w'=w.setCell a (.int .i32 0)):=by
  have hd:=raceOff
  have he:=raceOn
  have hr:=raceRel
  have hadd:=run_call_add (P:=Tryz.prog) Tryz.func369 (by kernel_rfl) (by kernel_rfl) (by kernel_rfl) .i32 (by kernel_rfl) (y:=-1) (s:=0) hc hz (by simp[go_sem];rfl)
  have hcv:=run_convert_to_unsafe (P:=Tryz.prog) (src:=439) (dst:=443) Tryz.underlying439 Tryz.underlying443 (by kernel_rfl) hc
  go_enter_d Tryz.func352,Tryz.ntmps352
  go_wp2
  go_end0
  go_wp2
  go_end0
  exact⟨rfl,rfl⟩
theorem lock_free(a:Addr)(w:World)(hc:w.cell? a=some (.int .i32 0))(hz:w.frozen? a=false) :
    Calls Tryz.prog 351 #[.pointer (some a)] w fun e w'=>e=.returned (.tuple #[])∧w'=w.setCell a (.int .i32 1):=by
  have hd:=raceOff
  have he:=raceOn
  have ha:=raceAcq
  have hcas:=run_call_cas_hit (P:=Tryz.prog) Tryz.func364 (by kernel_rfl) (by kernel_rfl) (by kernel_rfl) .i32 (by kernel_rfl) (y:=1) hc hz
  have hc':(w.setCell a (.int .i32 1)).cell? a=some (.int .i32 1):=World.cell?_setCell_same w a _ hc
  have hcv:=run_convert_to_unsafe (P:=Tryz.prog) (src:=439) (dst:=443) Tryz.underlying439 Tryz.underlying443 (by kernel_rfl) hc'
  go_enter Tryz.func351,Tryz.ntmps351
  go_wp2
  first | go_end0 | (simp only[Exit.inBlock,Exit.then];refine bodyPost_ret (results_none rfl _ _ _) rfl ?_) | refine bodyPost_ret (results_none rfl _ _ _) rfl ?_
  go_wp2
  go_end0
  exact⟨rfl,rfl⟩
theorem slow_any(b:Nat)(pl:Addr)(hpb:¬b=pl.block)(x6:Value)(w:World)(hp:w.cell? pl=some (.pointer (some ⟨b,0,none⟩)))
    (h0:w.cell? ⟨b,3,none⟩=some (.int .u32 0)) (h1:w.cell? ⟨b,4,none⟩=some (.int .i32 0)) (h3:w.cell? ⟨b,6,none⟩=some x6)
    (f0:w.frozen? ⟨b,3,none⟩=false) (f1:w.frozen? ⟨b,4,none⟩=false) (f3:w.frozen? ⟨b,6,none⟩=false) :
    Calls Tryz.prog 342 #[.pointer (some ⟨b,3,none⟩),.func (.func 327) #[] #[.pointer (some pl)]] w fun e w'=>e=.returned (.tuple #[]) ∧
      w'=(((w.setCell ⟨b,4,none⟩ (.int .i32 1)).setCell ⟨b,6,none⟩ (.bool true)).drew.setCell ⟨b,3,none⟩ (.int .u32 1)).setCell ⟨b,4,none⟩ (.int .i32 0):=by
  have hl:=run_call_load (P:=Tryz.prog) Tryz.func350 (by kernel_rfl) (by kernel_rfl) (by kernel_rfl) .u32 (by kernel_rfl) (w:=w.setCell ⟨b,4,none⟩ (.int .i32 1)) (a:=⟨b,3,none⟩) (x:=0) ((World.cell?_setCell_other _ ⟨b,4,none⟩ ⟨b,3,none⟩ _ (by simp)).trans h0)
  have hp1:(w.setCell ⟨b,4,none⟩ (.int .i32 1)).cell? pl=some (.pointer (some ⟨b,0,none⟩)):=(World.cell?_setCell_other _ ⟨b,4,none⟩ pl _ (fun h=>hpb (by rw[← h]))).trans hp
  have h31:(w.setCell ⟨b,4,none⟩ (.int .i32 1)).cell? ⟨b,6,none⟩=some x6:=(World.cell?_setCell_other _ ⟨b,4,none⟩ ⟨b,6,none⟩ _ (by simp)).trans h3
  have hnot:∀ (x:Bool) (w:World),(Op.unary .not (.bool x)).run Tryz.prog w=.ok (.bool (!x)) w:=fun _ _=>rfl
  go_enter_defers Tryz.func342,Tryz.ntmps342
  go_wp2_with (go_at_call 351;refine(lock_free ⟨b,4,none⟩ _ (by go_simp) (by go_simp)).mono ?_;rintro e w' ⟨rfl,rfl⟩)
  go_wp2
  go_end0
  go_wp2
  refine leaves_cons (f:=353) (args:=#[.pointer (some ⟨b,3,none⟩),.bool true]) (by simp) (by simp[go_sem]) ?_
  refine(store_deferred ⟨b,3,none⟩ (.int .u32 0) .returning _ ?_ (by simp[f0])).mono ?_
  · exact(World.cell?_setCell_other _ ⟨b,6,none⟩ ⟨b,3,none⟩ _ (by simp)).trans ((World.cell?_setCell_other _ ⟨b,4,none⟩ ⟨b,3,none⟩ _ (by simp)).trans h0)
  rintro e u' w'' ⟨rfl,rfl,rfl⟩
  refine leaves_cons (f:=352) (args:=#[.pointer (some ⟨b,4,none⟩)]) (by simp[settle]) (by simp[go_sem]) ?_
  refine(unlock_deferred ⟨b,4,none⟩ _ _ ?_ (by simp[f1])).mono ?_
  · refine(World.cell?_setCell_other _ ⟨b,3,none⟩ ⟨b,4,none⟩ _ (by simp)).trans ?_
    rw[World.cell?_drew]
    exact(World.cell?_setCell_other _ ⟨b,6,none⟩ ⟨b,4,none⟩ _ (by simp)).trans (World.cell?_setCell_same w _ _ h1)
  rintro e u' w'' ⟨rfl,rfl,rfl⟩
  simp[Leaves,settle,results,Tryz.results342]
theorem do_first(b:Nat)(pl:Addr)(hpb:¬b=pl.block)(x6:Value)(w:World)(hp:w.cell? pl=some (.pointer (some ⟨b,0,none⟩)))
    (h0:w.cell? ⟨b,3,none⟩=some (.int .u32 0)) (h1:w.cell? ⟨b,4,none⟩=some (.int .i32 0)) (h3:w.cell? ⟨b,6,none⟩=some x6)
    (f0:w.frozen? ⟨b,3,none⟩=false) (f1:w.frozen? ⟨b,4,none⟩=false) (f3:w.frozen? ⟨b,6,none⟩=false) :
    Calls Tryz.prog 326 #[.pointer (some ⟨b,3,none⟩),.func (.func 327) #[] #[.pointer (some pl)]] w fun e w'=>e=.returned (.tuple #[])∧Kp (·=b) w w':=by
  have hl:=run_call_load (P:=Tryz.prog) Tryz.func350 (by kernel_rfl) (by kernel_rfl) (by kernel_rfl) .u32 (by kernel_rfl) h0
  have hnot:∀ (x:Bool) (w:World),(Op.unary .not (.bool x)).run Tryz.prog w=.ok (.bool (!x)) w:=fun _ _=>rfl
  go_enter Tryz.func326,Tryz.ntmps326
  go_wp2_with (first | (go_at_call 342;refine(slow_any b pl hpb x6 _ hp h0 h1 h3 f0 f1 f3).mono ?_;rintro e w' ⟨rfl,rfl⟩) | (go_at_call 341;go_in))
  go_end0
  have kS:∀ (w:World) (k:Nat) (v:Value),Kp (·=b) w (w.setCell ⟨b,k,none⟩ v):=fun w k v=>Kp.setCell (S:=(·=b)) w (p:=⟨b,k,none⟩) rfl v
  exact⟨rfl,((((kS _ _ _).then (kS _ _ _)).then (Kp.of (below_drew _))).then (kS _ _ _)).then (kS _ _ _)⟩
theorem xend_any{Z:Nat→Prop}{w:World}{x a s:Nat}{X:Option (Value×List UInt8)}(h:XB Z w x a s X):Calls Tryz.prog 289 #[.pointer (some ⟨x,0,none⟩)] w fun e w'=>e=.returned (.tuple #[])∧Kp (·=x) w w':=by
  have hmf:∀ (fn:Fn) (first cap:Array Value) (w:World),(Instr.makeFunc fn first cap).run Tryz.prog w=.ok (.func fn first cap) w:=fun _ _ _ _=>rfl
  obtain⟨W1,hW1,g1,b1,s1⟩:=box_alloc w (.cells #[.pointer (some ⟨x,0,none⟩)] 152)
  have h1:=h.below b1
  have DO:=do_first x ⟨w.heap.size,0,none⟩ (by have:=hlt h.box;simp;omega) (.bool false) W1 (cellD g1 0) (cellD h1.box 3) (cellD h1.box 4) (cellD h1.box 6) (frozenD h1.box 3) (frozenD h1.box 4) (frozenD h1.box 6)
  have g0:W1.cell? ⟨w.heap.size,0,none⟩=some (.pointer (some ⟨x,0,none⟩)):=cellD g1 0
  clear s1
  go_enter Tryz.func289,Tryz.ntmps289
  go_wp2_with (go_at_call 326;(with_reducible refine DO.mono ?_);rintro e w2 ⟨rfl,k2⟩)
  go_end0
  exact⟨rfl,(Kp.of b1).then k2⟩
theorem zeroB(w:World):(zeroValue 33).run Tryz.prog w=.ok (.slice none 0 0) w:=by kernel_rfl
theorem lookX{w:World}{b:Nat}{m:List (Int×Value)}(h:MapI w b m)(n:Int):(Instr.lookup 191 (.map (some b)) (.int .i64 n) true).run Tryz.prog w=.ok (.tuple #[(m.lookup n).getD (.slice none 0 0),.bool (m.lookup n).isSome]) w:=
  run_lookup_int_ok (P:=Tryz.prog) Tryz.underlying191 Tryz.underlying3 h n (zeroB w)
theorem Own.rd0{w:World}{v:Value}{l:List UInt8}{n:Nat}(h:Own w 0 v l)(hl:l.length=n)(h0:0<n):∃ g c,v=.slice (some ⟨g,0,none⟩) n c∧n≤c∧g<w.heap.size∧Rd w w.heap.size (some ⟨g,0,none⟩) l:=by
  subst hl
  rcases h.form with⟨_,rfl⟩|⟨g,cap,rfl,_,hlt,h4,h5,hc⟩
  · exact absurd h0 (by simp)
  · exact⟨g,cap,rfl,h4,hlt,fun _=>⟨g,0,rfl,hlt,fun k hk=>by rw[Nat.zero_add];exact hc k hk⟩⟩
section
variable {Z:Nat→Prop}{w:World}{p d m a j im x s:Nat}{R:PR}{b:Bool}{X:Option (Value×List UInt8)}
theorem xget_pool{Q:Value→World→Prop}(h:XB Z w x a s none)(h2:AB w a p j im b)(G:Calls Tryz.prog 274 #[.pointer (some ⟨p,0,none⟩),.int .i64 1] w fun e w'=>∃ v,e=.returned (.tuple #[v,.int .i64 0])∧Q v w') :
    Calls Tryz.prog 240 #[.pointer (some ⟨x,0,none⟩),.int .i64 1] w fun e w'=>∃ v,e=.returned (.tuple #[v,.int .i64 0])∧Q v w':=by
  have ST:=xstands_any h h2
  have hm:MapI w s []:=h.map
  have L:=lookX hm 1
  have c2:w.cell? ⟨x,2,none⟩=some (.map (some s)):=cellD h.box 2
  have c1:w.cell? ⟨x,1,none⟩=some (.pointer (some ⟨a,0,none⟩)):=cellD h.box 1
  have d1:w.cell? ⟨a,1,none⟩=some (.pointer (some ⟨p,0,none⟩)):=cellD h2.box 1
  go_enter Tryz.func240,Tryz.ntmps240
  go_wp2_with (first
    | (go_at_call 273;(with_reducible refine ST.mono ?_);rintro e w ⟨rfl,rfl⟩)
    | (go_at_call 274;(with_reducible refine G.mono ?_);rintro e w2 ⟨v,rfl,q⟩))
  go_ret2
  exact⟨_,rfl,q⟩
theorem xchanged1_any{u:Value×List UInt8}(h:XB Z w x a s (some u)):Calls Tryz.prog 323 #[.pointer (some ⟨x,0,none⟩)] w fun e w'=>(∃ q c,e=.returned (.slice (some ⟨q,0,none⟩) 1 c)∧w.heap.size≤q∧1≤c∧∃ cur,w'.heap[q]? = some (.cells cur 3 (0,0))∧cur[0]? = some (.int .i64 1))∧Below w.heap.size w w':=by
  have M:=xmade_any h
  have hm:MapI w s [(1,u.1)]:=h.map
  have c2:w.cell? ⟨x,2,none⟩=some (.map (some s)):=cellD h.box 2
  have KK:=(Tryz.keysAt1).keys (some s) w
  obtain⟨W1,hW1,g1,b1,s1⟩:=box_alloc w (.cells #[.map (some s)] (Tryz.keys134_ren.t 23))
  have KS:=keys_one Tryz.keysAt1 (hm.below b1) (hlt g1) (cellD g1 0)
  have HS:=Lib.hid s1
  clear s1
  go_enter Tryz.func323,Tryz.ntmps323
  go_wp2_with (first
    | (go_at_call 276;(with_reducible refine M.mono ?_);rintro e w ⟨rfl,rfl⟩)
    | (go_at_call 134;(with_reducible refine KK.mono ?_);rintro e w2 ⟨rfl,rfl⟩;rw[hW1])
    | (go_at_call 133;(with_reducible refine KS.mono ?_);rintro e w3 ⟨⟨q,c,rfl,hq,hc,cur,hcur,hc0⟩,b3⟩))
  go_ret
  exact⟨⟨q,c,rfl,by have:=HS.out;omega,hc,cur,hcur,hc0⟩,b1.trans (b3.mono b1.size)⟩
theorem xset_any{g c:Nat}{l:List UInt8}(h:XB Z w x a s none)(h2:AB w a p j im b)(h3:PB Z w p d m R)(hr:Rd w w.heap.size (some ⟨g,0,none⟩) l)(hl:l.length=4080)(hz:∀ k,Z k→k<w.heap.size) :
    Calls Tryz.prog 320 #[.pointer (some ⟨x,0,none⟩),.int .i64 1,.slice (some ⟨g,0,none⟩) 4080 c] w fun e w'=>e=.returned (.int .i64 0)∧(∃ v,XB Z w' x a s (some (v,l))∧∀ k,v.ownBlock=some k→w.heap.size≤k)∧Kp (·=s) w w':=by
  have ST:=xstands_any h h2
  have PG:=xpages_any h h2 h3
  have hm:MapI w s []:=h.map
  have L:=lookX hm 1
  have LN:=fun ty=>run_len_int (P:=Tryz.prog) (ht:=Tryz.underlying191) hm ty
  have c2:w.cell? ⟨x,2,none⟩=some (.map (some s)):=cellD h.box 2
  have hp:=h3.pg
  have f1:decide ((R.pages:Int)≤1)=false:=by simp;omega
  have f2:decide (R.pages≤1)=false:=by simp;omega
  have CL:=cloneA_any ⟨g,0,none⟩ c 4080 l w hr hl.symm (by omega)
  go_enter Tryz.func320,Tryz.ntmps320
  go_wp2_with (first
    | (go_at_call 273;(with_reducible refine ST.mono ?_);rintro e w ⟨rfl,rfl⟩)
    | (go_at_call 244;(with_reducible refine PG.mono ?_);rintro e w ⟨rfl,rfl⟩)
    | fail)
  have CD:=(fun(hr:Rd w.drew w.drew.heap.size (some ⟨g,0,none⟩) l)=>cloneA_any ⟨g,0,none⟩ c 4080 l w.drew hr hl.symm (by omega)) hr
  have c2':w.drew.cell? ⟨x,2,none⟩=some (.map (some s)):=c2
  have hxs:x≠s:=fun e=>hm.ne h.box e.symm
  have hmd:MapI w.drew s []:=hm.below (below_drew w)
  go_region_held3 (fun w'=>w'.cell? ⟨x,2,none⟩=some (.map (some s)))
    (first | with_reducible exact c2' | with_reducible exact k2 | with_reducible exact k3 | go_keep)
    (first
      | (go_at_call 99;(with_reducible refine CD.mono ?_);rintro e w2 ⟨v,rfl,o2,b2⟩;have k2:w2.cell? ⟨x,2,none⟩=some (.map (some s)):=cellD (keepB b2 h.box) 2;obtain⟨W3,hU,m3,o3,s3,os3,t3,u3⟩:=run_update_int (P:=Tryz.prog) Tryz.underlying191 Tryz.underlying3 (hmd.below b2) 1 v;have k3:W3.cell? ⟨x,2,none⟩=some (.map (some s)):=(cellK (o3 x hxs)).trans k2)
      | fail)
  all_goals
    go_wp2
    go_ret
    have kk:Kp (·=s) w W3:=((Kp.of (below_drew w)).then (Kp.of b2)).then ⟨os3,t3,u3,Nat.le_of_eq s3.symm,fun k _ hk=>o3 k hk⟩
    refine⟨rfl,⟨v,⟨kk.keep h.box hxs,m3,fun u e=>?_⟩,fun k e=>o2.blk k e⟩,kk⟩
    injection e with e
    subst e
    exact⟨(o2.blocks fun k e=>o3 k fun e2=>o2.tagm (hmd.below b2) (e2▸e)).down (Nat.zero_le _),hl,fun k e1 e2=>Nat.lt_irrefl _ (Nat.lt_of_lt_of_le (hz k e2) (o2.blk k e1))⟩
end
end Go.Proofs.YtdbkocfbhpgpkaaGreat
