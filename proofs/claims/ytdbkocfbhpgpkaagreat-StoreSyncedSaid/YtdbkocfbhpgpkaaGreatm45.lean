/-
  What the evaluator is told of the model's own entries, of slices.Sorted(maps.Keys(m)) and of slices.Insert.
-/
import Derived.Test.YtdbkocfbhpgpkaaGreatm22
import Derived.Test.YtdbkocfbhpgpkaaGreatProg
import Derived.Test.YtdbkocfbhpgpkaaGreatm23
import Derived.Test.YtdbkocfbhpgpkaaGreatm24
import Derived.Test.YtdbkocfbhpgpkaaGreatm35
import Derived.KernelRfl
set_option linter.unusedVariables false
set_option linter.unusedSimpArgs false
namespace Go.Ev
open Go Go.RowKit
noncomputable section
def renG (G:Nat):Ren:=fun g=>if g<G then some ⟨g,0,0⟩ else none
theorem Rel.init(G dep:Nat)(h:G≤2 ^ dep)(w:World):Rel (renG G) (St.init G dep) w where
 ok:=T.Ok_full _ _
 lt:=h
 fresh i hi:=by unfold renG;rw[if_neg (show ¬i<G from Nat.not_lt.2 hi)]
 live i _ hl:=by
  simp only[St.init,T.get_full] at hl
  cases hl
 inj i j L M _ _ _ hl:=by
  simp only[St.init,T.get_full] at hl
  cases hl
theorem Glob.init(G:Nat):Glob (renG G) G:=fun g hg=>⟨0,by unfold renG;rw[if_pos hg]⟩
end
end Go.Ev
namespace Go.Ev
open Go
noncomputable section
def intEq:Int→Int→Bool
 | .ofNat a,.ofNat b=>Nat.beq a b
 | .negSucc a,.negSucc b=>Nat.beq a b
 | _,_=>false
def knEq (k k':IntKind):Bool:=decide (k=k')
def fnEq:Fn→Fn→Bool
 | .func f,.func g=>Nat.beq f g
 | _,_=>false
def boolEq(a b:Bool):Bool:=Bool.rec (motive:=fun _=>Bool) (Bool.rec (motive:=fun _=>Bool) true false b) b a
mutual
def covA:AV→AV→Bool
 | .top,_=>true
 | .bool a,.bool b=>boolEq a b
 | .int k m,.int k' n=>knEq k k' && intEq m n
 | .str n b,.str n' b'=>Nat.beq n n' && Nat.beq b b'
 | .pnil,.pnil=>true
 | .ptr i o,.ptr j p=>Nat.beq i j && Nat.beq o p
 | .snil,.snil=>true
 | .slice i o n c e,.slice i' o' n' c' e'=>Nat.beq i i' && (Nat.beq o o' && (Nat.beq n n' && (Nat.beq c c' && Nat.beq e e')))
 | .mnil,.mnil=>true
 | .map i,.map j=>Nat.beq i j
 | .func f a c,.func f' a' c'=>fnEq f f' && (covL a a' && covL c c')
 | .fnil,.fnil=>true
 | .yield i,.yield j=>Nat.beq i j
 | .iface t v,.iface t' v'=>Nat.beq t t' && covA v v'
 | .inil,.inil=>true
 | .agg l,.agg l'=>covL l l'
 | .tup l,.tup l'=>covL l l'
 | _,_=>false
def covL:List AV→List AV→Bool
 | [],[]=>true
 | a::l,b::m=>covA a b && covL l m
 | _,_=>false
end
def covT:T AV→T AV→Bool
 | .leaf a,.leaf b=>covA a b
 | .node l r,.node l' r'=>covT l l' && covT r r'
 | _,_=>false
def covO:AO→AO→Bool
 | .dead,_=>true
 | .cells rw sz d t,.cells rw' sz' d' t'=>boolEq rw rw' && (Nat.beq sz sz' && (Nat.beq d d' && covT t t'))
 | .bytes rw sz n,.bytes rw' sz' n'=>boolEq rw rw' && (Nat.beq sz sz' && Nat.beq n n')
 | .map es,.map es'=>covL (es.map (·.1)) (es'.map (·.1)) && covL (es.map (·.2)) (es'.map (·.2))
 | .box v,.box v'=>covA v v'
 | _,_=>false
inductive K where
 | dead
 | leaf (o:AO)
 | node (l r:K)
def covK:K→T AO→Bool
 | .dead,_=>true
 | .leaf o,.leaf o'=>covO o o'
 | .node l r,.node l' r'=>covK l l' && covK r r'
 | _,_=>false
def covSt(k:K)(dep next:Nat):St→Bool
 | ⟨h,d,n⟩=>Nat.beq next n && (Nat.beq dep d && covK k h)
section
variable {k:K}{dep next:Nat}{st:St}(h:covSt k dep next st=true)
include h
end
structure Mo where
 f:FuncId
 args:List AV
 dep:Nat
 k:K
 next:Nat
 v:AV
 k':K
 next':Nat
def Mo.fits(m:Mo)(f:FuncId)(args:List AV)(st:St):Bool:=match m with
 | ⟨f',args',dep,k,next,_,_,_⟩=>Nat.beq f' f && (covSt k dep next st && covL args' args)
def maskE(mask:Nat)(e:ExtF):ExtF:=fun f args st=>Bool.rec (motive:=fun _=>Option (AV×St)) none (e f args st) (Nat.testBit mask f)
theorem maskE_ok{P:Program}{G mask:Nat}{e:ExtF}(he:ExtOk P G e):ExtOk P G (maskE mask e):=by
 intro f args st v st' h
 unfold maskE at h
 cases hb:Nat.testBit mask f with
 | false=>rw[hb] at h;cases h
 | true=>rw[hb] at h;exact he f args st v st' h
end
end Go.Ev
namespace Go.Proofs.YtdbkocfbhpgpkaaGreat
open Go Go.RowKit Go.Ev
noncomputable section
abbrev primT:PrimT:=[(225,.store),(232,.add .i64),(226,.load .i64),(278,.compare),(350,.load .u32),(360,.store),(363,.mark0),(365,.mark0),(364,.cas .i32),(366,.marked),(368,.marked),(369,.add .i32)]
theorem primT_ok:∀ x∈primT,PrimOk Tryz.prog x:=by
  intro x hx
  simp only[List.mem_cons,List.not_mem_nil,or_false] at hx
  rcases hx with rfl|rfl|rfl|rfl|rfl|rfl|rfl|rfl|rfl|rfl|rfl|rfl
  · exact⟨_,_,Tryz.func225,by kernel_rfl,by kernel_rfl,by kernel_rfl,(by kernel_rfl:Extern.find _=some Extern.Atomic.storeT),rfl⟩
  · exact⟨_,_,Tryz.func232,by kernel_rfl,by kernel_rfl,by kernel_rfl,(by kernel_rfl:Extern.find _=some (Extern.Atomic.update (Op.intArith .add) .i64 true)),rfl⟩
  · exact⟨_,_,Tryz.func226,by kernel_rfl,by kernel_rfl,by kernel_rfl,(by kernel_rfl:Extern.find _=some (Extern.Atomic.loadT (.int .i64))),rfl⟩
  · exact⟨_,_,Tryz.func278,by kernel_rfl,by kernel_rfl,by kernel_rfl,(by kernel_rfl:Extern.find _=some Extern.BytealgCompare.compare),rfl⟩
  · exact⟨_,_,Tryz.func350,by kernel_rfl,by kernel_rfl,by kernel_rfl,(by kernel_rfl:Extern.find _=some (Extern.Atomic.loadT (.int .u32))),rfl⟩
  · exact⟨_,_,Tryz.func360,by kernel_rfl,by kernel_rfl,by kernel_rfl,(by kernel_rfl:Extern.find _=some Extern.Atomic.storeT),rfl⟩
  · exact⟨_,_,Tryz.func363,by kernel_rfl,by kernel_rfl,by kernel_rfl,(by kernel_rfl:Extern.find _=some (fun _=>do mark Mark.disable;pure Extern.Race.none_)),⟨_,rfl⟩⟩
  · exact⟨_,_,Tryz.func365,by kernel_rfl,by kernel_rfl,by kernel_rfl,(by kernel_rfl:Extern.find _=some (fun _=>do mark Mark.enable;pure Extern.Race.none_)),⟨_,rfl⟩⟩
  · exact⟨_,_,Tryz.func364,by kernel_rfl,by kernel_rfl,by kernel_rfl,(by kernel_rfl:Extern.find _=some (Extern.Atomic.casT (.int .i32))),rfl⟩
  · exact⟨_,_,Tryz.func366,by kernel_rfl,by kernel_rfl,by kernel_rfl,(by kernel_rfl:Extern.find _=some (Extern.Race.marked Mark.acquire)),⟨_,rfl⟩⟩
  · exact⟨_,_,Tryz.func368,by kernel_rfl,by kernel_rfl,by kernel_rfl,(by kernel_rfl:Extern.find _=some (Extern.Race.marked Mark.releaseMerge)),⟨_,rfl⟩⟩
  · exact⟨_,_,Tryz.func369,by kernel_rfl,by kernel_rfl,by kernel_rfl,(by kernel_rfl:Extern.find _=some (Extern.Atomic.update (Op.intArith .add) .i32 true)),rfl⟩
abbrev keysT:KeysT:=[(134,133,220),(309,133,336)]
theorem keysT_ok:∀ x∈keysT,∃ kt mt,KeysAt Tryz.prog x.1 x.2.1 x.2.2 kt mt:=by
  intro x hx
  simp only[List.mem_cons,List.not_mem_nil,or_false] at hx
  rcases hx with rfl|rfl
  · exact⟨_,_,Tryz.keysAt1⟩
  · exact⟨_,_,Tryz.keysAt2⟩
theorem insT_ok:∀ f∈[251],∃ et,InsAt Tryz.prog f et:=by
  intro f hf
  simp only[List.mem_cons,List.not_mem_nil,or_false] at hf
  subst hf
  exact⟨_,insAt⟩
def ext0:ExtF:=maskE 2087856649584553730708222281735540022268308894912110528958356439777984232563532523249631631843168814831197224960 (orE (primE primT) (orE (keysE keysT) (insE [251])))
theorem ext0_ok:ExtOk Tryz.prog 1 ext0:=maskE_ok (orE_ok (primE_ok primT_ok) (orE_ok (keysE_ok keysT_ok) (insE_ok insT_ok)))
theorem mixed:Tryz.prog.follows .mixedOrders=true:=by kernel_rfl
end
end Go.Proofs.YtdbkocfbhpgpkaaGreat
