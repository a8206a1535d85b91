/-
  One operation of any class, and plain regions.
-/
import Derived.Test.YtdbkocfbhpgpkaaGreatm06
import Derived.Test.YtdbkocfbhpgpkaaGreatm17
import Derived.Tactics
import Derived.OrdersIn
import Derived.TacticsIn
set_option linter.unusedVariables false
set_option linter.unusedSimpArgs false
namespace Go.Ev
open Go
noncomputable section
def wrapF(k:IntKind):Int→Int:=
  match k with
  | .i8=>fun n=>wrapA .i8 n
  | .i16=>fun n=>wrapA .i16 n
  | .i32=>fun n=>wrapA .i32 n
  | .i64 => fun n => match n with
    | .ofNat m=>Bool.rec (motive:=fun _=>Int) (wrapA .i64 (.ofNat m)) (.ofNat m) (Nat.ble m (nat_lit 9223372036854775807))
    | .negSucc m=>wrapA .i64 (.negSucc m)
  | .u8 => fun n => match n with
    | .ofNat m=>.ofNat (Nat.mod m (nat_lit 256))
    | .negSucc m=>wrapA .u8 (.negSucc m)
  | .u16 => fun n => match n with
    | .ofNat m=>.ofNat (Nat.mod m (nat_lit 65536))
    | .negSucc m=>wrapA .u16 (.negSucc m)
  | .u32 => fun n => match n with
    | .ofNat m=>.ofNat (Nat.mod m (nat_lit 4294967296))
    | .negSucc m=>wrapA .u32 (.negSucc m)
  | .u64 => fun n => match n with
    | .ofNat m=>.ofNat (Nat.mod m (nat_lit 18446744073709551616))
    | .negSucc m=>wrapA .u64 (.negSucc m)
theorem wrapF_eq(k:IntKind)(n:Int):wrapF k n=wrapA k n:=by
  cases k<;>cases n<;>try rfl
  rename_i m
  show Bool.rec (motive:=fun _=>Int) (wrapA .i64 (.ofNat m)) (.ofNat m) (Nat.ble m 9223372036854775807)=_
  cases hb:Nat.ble m 9223372036854775807 with
  | false=>rfl
  | true =>
    have:=ble_iff.1 hb
    have h2:Nat.blt m 9223372036854775808=true:=blt_iff.2 (by omega)
    simp only[wrapA,h2,cond_true]
def limF (k:IntKind):Nat:=
  match k with
  | .i8=>nat_lit 127 | .i16=>nat_lit 32767 | .i32=>nat_lit 2147483647 | .i64=>nat_lit 9223372036854775807
  | .u8=>nat_lit 255 | .u16=>nat_lit 65535 | .u32=>nat_lit 4294967295 | .u64=>nat_lit 18446744073709551615
def bitNat(op:BinOp):Option (Nat→Nat→Nat):=
  match op with
  | .and=>some Nat.land
  | .or=>some Nat.lor
  | .xor=>some Nat.xor
  | _=>none
def unsM (k:IntKind):Option Nat:=
  match k with
  | .u8=>some (nat_lit 256) | .u16=>some (nat_lit 65536) | .u32=>some (nat_lit 4294967296) | .u64=>some (nat_lit 18446744073709551616)
  | .i8=>none | .i16=>none | .i32=>none | .i64=>none
theorem unsM_eq{k:IntKind}{M:Nat}(h:unsM k=some M):M=2 ^ k.bits∧∀ n:Nat,k.wrap (n:Int)=((n % M:Nat):Int):=by
  cases k<;>simp only[unsM,Option.some.injEq,reduceCtorEq] at h<;>subst h<;>refine⟨rfl,fun n=>?_⟩<;>simp only[IntKind.wrap,IntKind.bits,IntKind.signed]<;>simp
theorem bits_ofNat(k:IntKind)(x:Nat):(BitVec.ofInt k.bits (Int.ofNat x)).toNat=x % 2 ^ k.bits:=by
  simp only[Int.ofNat_eq_natCast]
  rw[BitVec.ofInt_natCast,BitVec.toNat_ofNat]
def bitsF(op:BinOp)(k:IntKind)(a b:Int):Option AV:=
  match a with
  | .ofNat x => match b with
    | .ofNat y => match bitNat op with
      | some f => match unsM k with
        | some M=>some (.int k (.ofNat (Nat.mod (f x y) M)))
        | none=>Bool.rec (motive:=fun _=>Option AV) ((bitsA op k (.ofNat x) (.ofNat y)).map (.int k)) (some (.int k (.ofNat (f x y)))) (and (Nat.ble x (limF k)) (Nat.ble y (limF k)))
      | none=>(bitsA op k (.ofNat x) (.ofNat y)).map (.int k)
    | .negSucc y=>(bitsA op k (.ofNat x) (.negSucc y)).map (.int k)
  | .negSucc x=>(bitsA op k (.negSucc x) b).map (.int k)
theorem bitsF_eq(op:BinOp)(k:IntKind)(a b:Int):bitsF op k a b=(bitsA op k a b).map (.int k):=by
  unfold bitsF
  split
  · rename_i x
    split
    · rename_i y
      split
      · rename_i f hf
        split
        · rename_i M hM
          obtain⟨rfl,hw⟩:=unsM_eq hM
          cases op<;>simp only[bitNat,Option.some.injEq,reduceCtorEq] at hf<;>subst hf<;>simp only[bitsA,Option.map_some,BitVec.toNat_and,BitVec.toNat_or,BitVec.toNat_xor,bits_ofNat,hw]
          · rw[← Nat.and_mod_two_pow,Nat.mod_mod];rfl
          · rw[← Nat.or_mod_two_pow,Nat.mod_mod];rfl
          · rw[← Nat.xor_mod_two_pow,Nat.mod_mod];rfl
        cases hb:(and (Nat.ble x (limF k)) (Nat.ble y (limF k))) with
        | false=>rfl
        | true =>
          simp only[Bool.and_eq_true,ble_iff] at hb
          obtain⟨hx,hy⟩:=hb
          have hbits:limF k<2 ^ k.bits:=by cases k<;>decide
          have ex:(BitVec.ofInt k.bits (Int.ofNat x)).toNat=x:=by
            simp only[Int.ofNat_eq_natCast]
            rw[BitVec.ofInt_natCast,BitVec.toNat_ofNat,Nat.mod_eq_of_lt (by omega)]
          have ey:(BitVec.ofInt k.bits (Int.ofNat y)).toNat=y:=by
            simp only[Int.ofNat_eq_natCast]
            rw[BitVec.ofInt_natCast,BitVec.toNat_ofNat,Nat.mod_eq_of_lt (by omega)]
          have hfit:∀ z:Nat,z≤limF k→k.wrap (z:Int)=z:=by
            intro z hz
            rw[← wrapA_eq]
            cases k<;>simp only[limF] at hz<;>first
              | (simp only[wrapA];simp;omega)
              | (rw[wrapA_eq];simp only[IntKind.wrap,IntKind.bits,IntKind.signed];simp;omega)
              | (have : Nat.blt z 9223372036854775808 = true := blt_iff.2 (by omega)
                 show(bif Nat.blt z 9223372036854775808 then Int.ofNat z else _)=_
                 rw[this];rfl)
          have hlim:∃ j,limF k+1=2 ^ j:=by cases k<;>first | exact⟨7,rfl⟩ | exact⟨15,rfl⟩ | exact⟨31,rfl⟩ | exact⟨63,rfl⟩ | exact⟨8,rfl⟩ | exact⟨16,rfl⟩ | exact⟨32,rfl⟩ | exact⟨64,rfl⟩
          obtain⟨j,hj⟩:=hlim
          have hx':x<2 ^ j:=by omega
          have hy':y<2 ^ j:=by omega
          cases op<;>simp only[bitNat,Option.some.injEq,reduceCtorEq] at hf<;>subst hf<;>simp only[bitsA,Option.map_some]
          · rw[BitVec.toNat_and,ex,ey,hfit]
            · rfl
            · have:=Nat.and_lt_two_pow x hy';omega
          · rw[BitVec.toNat_or,ex,ey,hfit]
            · rfl
            · have:=Nat.or_lt_two_pow hx' hy';omega
          · rw[BitVec.toNat_xor,ex,ey,hfit]
            · rfl
            · have:=Nat.xor_lt_two_pow hx' hy';omega
      · rfl
    · rfl
  · rfl
def intF (op:BinOp):IntKind→Int→Int→Option AV:=
  match op with
  | .add=>fun k a b=>some (.int k (wrapF k (Int.add a b)))
  | .sub=>fun k a b=>some (.int k (wrapF k (Int.sub a b)))
  | .mul=>fun k a b=>some (.int k (wrapF k (Int.mul a b)))
  | .eql=>fun _ a b=>some (.bool (eqI a b))
  | .neq=>fun _ a b=>some (.bool (not (eqI a b)))
  | .lss=>fun _ a b=>some (.bool (ltA a b))
  | .leq=>fun _ a b=>some (.bool (not (ltA b a)))
  | .gtr=>fun _ a b=>some (.bool (ltA b a))
  | .geq=>fun _ a b=>some (.bool (not (ltA a b)))
  | .and=>fun k a b=>bitsF .and k a b
  | .or=>fun k a b=>bitsF .or k a b
  | .xor=>fun k a b=>bitsF .xor k a b
  | .quo=>fun k a b=>intA .quo k a b
  | .rem=>fun k a b=>intA .rem k a b
  | .andNot=>fun k a b=>intA .andNot k a b
  | .shl=>fun k a b=>intA .shl k a b
  | .shr=>fun k a b=>intA .shr k a b
theorem intF_eq(op:BinOp)(k:IntKind)(a b:Int):intF op k a b=intA op k a b:=by
  cases op<;>simp only[intF,intA,wrapF_eq,bitsF_eq]<;>rfl
def shrF (k:IntKind)(x y:Int):Option AV:=
  match x with
  | .ofNat m => match y with
    | .ofNat n=>some (.int k (.ofNat (Nat.div m (Nat.pow (nat_lit 2) (min n k.bits)))))
    | .negSucc _=>none
  | .negSucc m=>shiftA .shr k (.negSucc m) y
def shiftF(op:BinOp):IntKind→Int→Int→Option AV:=
  match op with
  | .shr=>fun k x y=>shrF k x y
  | op=>fun k x y=>shiftA op k x y
theorem shiftF_eq(op:BinOp)(k:IntKind)(x y:Int):shiftF op k x y=shiftA op k x y:=by
  cases op<;>simp only[shiftF,shrF]
  split
  · rename_i m
    split
    · rename_i n
      simp only[shiftA]
      have:(Int.ofNat m).fdiv ((2 ^ min n k.bits:Nat):Int)=Int.ofNat (m / 2 ^ min n k.bits):=by
        simp only[Int.ofNat_eq_natCast];rw[← Int.ofNat_fdiv]
      rw[this];rfl
    · rfl
  · rfl
def notF (k:IntKind)(x:Int):Option AV:=
  match x with
  | .ofNat m => match unsM k with
    | some M=>some (.int k (.ofNat (Nat.sub (Nat.sub M (nat_lit 1)) (Nat.mod m M))))
    | none=>unA .xor (.int k (.ofNat m))
  | .negSucc m=>unA .xor (.int k (.negSucc m))
theorem notF_eq(k:IntKind)(x:Int):notF k x=unA .xor (.int k x):=by
  unfold notF
  split
  · rename_i m
    split
    · rename_i M hM
      obtain⟨rfl,hw⟩:=unsM_eq hM
      have hs:(if k.signed=true then(-1:Int) else k.max)=Int.ofNat (2 ^ k.bits-1):=by
        cases k<;>simp only[unsM,reduceCtorEq] at hM<;>rfl
      simp only[unA,bitsA,Option.map_some,hs]
      have h1:BitVec.ofInt k.bits (Int.ofNat (2 ^ k.bits-1))=BitVec.allOnes k.bits:=by
        apply BitVec.eq_of_toNat_eq
        rw[bits_ofNat,BitVec.toNat_allOnes,Nat.mod_eq_of_lt]
        have:=Nat.two_pow_pos k.bits;omega
      rw[h1,BitVec.allOnes_xor,BitVec.toNat_not,bits_ofNat,hw,Nat.mod_eq_of_lt]
      · rfl
      · have:=Nat.two_pow_pos k.bits;omega
    · rfl
  · rfl
def unF (op:UnOp)(x:AV):Option AV:=
  match op with
  | .xor => match x with
    | .int k n=>notF k n
    | x=>unA .xor x
  | op=>unA op x
theorem unF_eq(op:UnOp)(x:AV):unF op x=unA op x:=by
  cases op<;>first | rfl | skip
  cases x<;>first | rfl | exact notF_eq _ _
def isShift(op:BinOp):Bool:=match op with | .shl=>true | .shr=>true | _=>false
def binIntF(op:BinOp)(k:IntKind)(m:Int)(k':IntKind)(n:Int):Option AV:=
  match isShift op with
  | true=>shiftF op k m n
  | false => match kindEq k k' with
    | true=>intF op k m n
    | false=>none
def binF (P:Program)(op:BinOp)(t:TypeId)(x y:Operand)(a b:AV):Option AV:=
  match a with
  | .int k m => match b with
    | .int k' n=>binIntF op k m k' n
    | b=>binA P op t x y (.int k m) b
  | a=>binA P op t x y a b
theorem binF_eq(P:Program)(op:BinOp)(t:TypeId)(x y:Operand)(a b:AV):binF P op t x y a b=binA P op t x y a b:=by
  unfold binF
  split
  · split
    · unfold binIntF
      cases op<;>simp only[isShift,binA,shiftF_eq]<;>first | rfl | skip
      all_goals (generalize kindEq _ _=q;cases q<;>simp only[cond_true,cond_false,intF_eq])
    · rfl
  · rfl
def opPureF(o:Op):Program→(Operand→AV)→Option AV:=
  match o with
  | .move x=>fun _ v=>some (v x)
  | .assign x=>fun _ v=>some (v x)
  | .pick c a b => fun _ v => match v c with
    | .bool true=>some (v a)
    | .bool false=>some (v b)
    | _=>none
  | .build t parts=>fun P v=>opPure P (.build t parts) v
  | .binOp op t x y ty=>fun P v=>binF P op t x y (v x) (v y)
  | .unOp op t x=>fun _ v=>unF op (v x)
  | .convert s d x=>fun P v=>convA P s d (v x)
  | .slice t x lo hi mx=>fun P v=>opPure P (.slice t x lo hi mx) v
  | .fieldAddr s x f => fun P v => match v x with
    | .ptr i o => match fieldOff P s f with
      | some off=>some (.ptr i (Nat.add o off))
      | none=>none
    | _=>none
  | .field t x f=>fun P v=>fieldA P t (v x) f
  | .indexAddr t x i=>fun P v=>indexAtA P t (v x) (v i)
  | .index t x i=>fun P v=>indexA P t (v x) (v i)
  | .extract x i => fun _ v => match v x with
    | .tup l=>l[i]?
    | _=>none
  | .makeFunc fn first captured=>fun P v=>opPure P (.makeFunc fn first captured) v
  | .makeInterface t x=>fun P v=>opPure P (.makeInterface t x) v
  | .nilCheck x=>fun P v=>opPure P (.nilCheck x) v
  | .call c=>fun P v=>opPure P (.call c) v
  | o=>fun P v=>opPure P o v
theorem opPureF_eq(o:Op)(P:Program)(v:Operand→AV):opPureF o P v=opPure P o v:=by
  cases o<;>first | rfl | skip
  · simp only[opPureF,opPure,binF_eq]
  · simp only[opPureF,opPure,unF_eq]
  · rename_i s x f
    simp only[opPureF,opPure]
    generalize v x=y
    cases y<;>first | rfl | (cases fieldOff P s f<;>rfl)
end
end Go.Ev
namespace Go.Ev
open Go
noncomputable section
inductive Cls where
  | pure | read | alloc | soft | heavy
  deriving DecidableEq
def clsOf(P:Program):Op→Cls
  | .load .. | .lookup .. => .read
  | .alloc _ | .box .. | .buildSlice .. | .makeSlice .. | .makeMap .. => .alloc
  | .convert s d _ => match P.underlying s, P.underlying d with
    | some (.slice _),some .string=>.read
    | some (.pointer _),some .unsafePointer=>.read
    | some .string,some (.slice _)=>.alloc
    | some (.slice _),some (.slice _)=>.soft
    | _,_=>.pure
  | .call c => match c.callee with
    | .builtin .len => match (c.argTypes[0]?).bind P.underlying with
      | some (.map _ _)=>.read
      | _=>.pure
    | .builtin .cap | .builtin .min | .builtin .max=>.pure
    | _=>.heavy
  | .store .. | .mapUpdate .. | .insert .. | .mapEntry .. | .entryStore .. | .next .. | .entry _ | .range .. | .defer _ | .go _ | .panic _=>.heavy
  | _=>.pure
theorem row_writable{o:AO}(h:o.row=true):o.writable=true:=by cases o<;>simp_all[AO.row,AO.writable]
def softOf(P:Program)(o:Op):Option Operand:=
  match o with
  | .convert s d x => match P.underlying s, P.underlying d with
    | some (.slice _),some (.slice e)=>bif Nat.beq s d && isU8 P e then some x else none
    | _,_=>none
  | _=>none
def marked:Obj→Obj
  | .cells C e (lo,hi)=>.cells C e (if lo==hi then(C.size,C.size+1) else(min lo C.size,max hi (C.size+1)))
  | o=>o
theorem ORel.marked{ρ:Ren}{L:Loc}{o:AO}{ob:Obj}(hbr:o.brow=true)(h:ORel ρ L o ob):ORel ρ L o (marked ob):=by
  have hfree:∀ (fz:Nat×Nat) (n:Nat),L.top≤n→free fz L.top→free (if fz.1==fz.2 then(n,n+1) else(min fz.1 n,max fz.2 (n+1))) L.top:=by
    intro fz n hn hf
    obtain⟨h1,h2⟩:=hf
    by_cases he:fz.1=fz.2
    · simp only[he,beq_self_eq_true,if_true]
      refine⟨by simp,fun o ho=>?_⟩
      have:¬n≤o:=by omega
      simp[this]
    · have hb:(fz.1==fz.2)=false:=by simpa using he
      simp only[hb,Bool.false_eq_true,if_false]
      refine⟨by omega,fun o ho=>?_⟩
      have htop:L.top≤fz.1:=by
        rcases Nat.lt_or_ge fz.1 L.top with g|g
        · have:=h2 fz.1 g
          have h3:fz.1<fz.2:=by omega
          simp[h3] at this
        · exact g
      have:¬min fz.1 n≤o:=by omega
      simp[this]
  cases o with
  | dead=>simp[AO.brow] at hbr
  | map es=>simp[AO.brow] at hbr
  | box v=>simp[AO.brow] at hbr
  | loop s p fr ps assign body=>simp[AO.brow] at hbr
  | cells rw sz d t=>simp[AO.brow] at hbr
  | bytes rw sz n =>
    obtain⟨C,e,fz,rfl,g3,g4,g5,g6⟩:=h
    exact⟨C,e,_,rfl,g3,g4,g5,fun hr=>hfree fz C.size g4 (g6 hr)⟩
theorem run_markStringish{P:Program}(w:World)(a:Addr):∃ w',(markStringish a).run P w=.ok () w'∧SameOut w w'∧w'.heap.size=w.heap.size ∧
    ∀ b,w'.heap[b]? = if b=a.block then(w.heap[b]?).map marked else w.heap[b]?:=by
  cases hs:w.shape? a.block with
  | none =>
    refine⟨w,by simp[markStringish,hs],⟨rfl,rfl,rfl⟩,rfl,?_⟩
    intro b
    split
    · rename_i hb;subst hb
      cases ho:w.heap[a.block]? with
      | none=>rfl
      | some o=>cases o<;>first | rfl | (simp[World.shape?,ho] at hs)
    · rfl
  | some p =>
    obtain⟨e,n⟩:=p
    refine⟨w.freeze { block:=a.block,off:=n } 1,by simp[markStringish,hs],⟨?_,?_,?_⟩,?_,?_⟩
    · simp[World.freeze]
    · simp[World.freeze]
    · simp[World.freeze]
    · simp[World.freeze]
    · intro b
      simp only[World.freeze,Nat.one_ne_zero,if_false,Array.getElem?_modify]
      split
      · rename_i hb;subst hb
        rw[if_pos rfl]
        cases ho:w.heap[a.block]? with
        | none=>rfl
        | some o =>
          cases o with
          | cells C el fz =>
            obtain⟨lo,hi⟩:=fz
            simp[World.shape?,ho] at hs
            obtain⟨_,rfl⟩:=hs
            rfl
          | _=>rfl
      · rename_i hb
        rw[if_neg (fun e=>hb e.symm)]
theorem soft_good{P:Program}{ρ:Ren}{st:St}{w:World}(hR:Rel ρ st w){a:Addr}{w':World}(hs:SameOut w w')(hz:w'.heap.size=w.heap.size)
    (hb:∀ b,w'.heap[b]? = if b=a.block then(w.heap[b]?).map marked else w.heap[b]?)
    (hown:∃ i L,i<st.next∧(st.heap.get i).brow=true∧ρ i=some L∧L.b=a.block):Good ρ st w ρ st w':=by
  refine⟨.refl ρ,⟨hR.ok,hR.lt,hR.fresh,?_,hR.inj⟩,rfl,Nat.le_refl _,by omega,hs.os,hs.tape,hs.output,?_,fun i L a b c _=>⟨i,L,a,b,c,rfl,id⟩,fun _ _ h=>h,fun _ _=>rfl⟩
  · intro i hi hl
    obtain⟨L,ob,h1,h2,h3⟩:=hR.live i hi hl
    by_cases e:L.b=a.block
    · obtain⟨j,M,hj,hjb,hjM,hM⟩:=hown
      have hij:i=j:=by
        by_cases hij:i=j
        · exact hij
        · exact absurd (e.trans hM.symm) (hR.inj i j L M hi hj hij hl (row_writable (AO.row_of_brow hjb)) h1 hjM)
      subst hij
      refine⟨L,marked ob,h1,?_,h3.marked hjb⟩
      rw[hb,if_pos e,h2];rfl
    · refine⟨L,ob,h1,?_,h3⟩
      rw[hb,if_neg e];exact h2
  · intro b hlt hno
    obtain⟨i,L,h1,h2,h3,h4⟩:=hown
    rw[hb,if_neg]
    intro e
    exact hno i L h1 (row_writable (AO.row_of_brow h2)) h3 (by omega)
def softA(P:Program)(o:Op)(v:Operand→AV):Option AV:=
  match softOf P o with
  | some x => match v x with
    | .slice i off len cap es=>bif Nat.blt 0 cap then some (.slice i off len cap es) else none
    | _=>none
  | none=>none
theorem soft_run{P:Program}{ρ:Ren}{o:Oper}{v:Operand→AV}{e:Operand→Value}{r:AV}(h:softA P o.op v=some r)(hv:∀ x,VR ρ (v x) (e x))(w:World) :
    ∃ z i off len cap es L w',r=.slice i off len cap es∧ρ i=some L∧(execOp e o).run P w=.ok (.value z) w'∧VR ρ r z∧SameOut w w'∧w'.heap.size=w.heap.size ∧
      ∀ b,w'.heap[b]? = if b=L.b then(w.heap[b]?).map marked else w.heap[b]?:=by
  unfold softA at h
  split at h
  · rename_i x hx
    split at h
    · rename_i i off len cap es hvx
      cases hp:Nat.blt 0 cap with
      | false=>rw[hp] at h;simp at h
      | true =>
        rw[hp] at h;simp only[cond_true,Option.some.injEq] at h;subst h
        have hpos:=blt_iff.1 hp
        unfold softOf at hx
        split at hx
        · rename_i s d x' ho
          split at hx
          · rename_i el e' hs hd
            cases hb:(Nat.beq s d && isU8 P e') with
            | false=>rw[hb] at hx;simp at hx
            | true =>
              rw[hb] at hx;simp only[cond_true,Option.some.injEq] at hx;subst hx
              simp only[Bool.and_eq_true,beq_iff] at hb
              obtain⟨rfl,hu⟩:=hb
              have hdd:=hd
              rw[hs] at hdd
              cases hdd
              have hel:P.underlying el=some (.int .u8):=by
                unfold isU8 at hu;split at hu
                · assumption
                · simp at hu
              have hx':=hv x'
              rw[hvx] at hx'
              obtain⟨L,cap',hL,hea,hval⟩:∃ L cap',ρ i=some L∧e x'=.slice (some (L.at off)) len cap'∧VR ρ (.slice i off len cap es) (.slice (some (L.at off)) len cap'):=by
                generalize e x'=ex at hx'
                cases hx' with
                | slice _ _ _ _ _ cap' L hL hp hl h0 h1=>exact⟨L,cap',hL,rfl,.slice _ _ _ _ _ _ L hL hp hl h0 h1⟩
                | slice0=>omega
              obtain⟨w',hm,hso,hz,hbl⟩:=run_markStringish (P:=P) w (L.at off)
              refine⟨.slice (some (L.at off)) len cap',i,off,len,cap,es,L,w',rfl,hL,?_,hval,hso,hz,hbl⟩
              unfold execOp
              rw[ho]
              refine run_v ?_
              rw[hea]
              simp only[convert,Sem.run_bind,run_underlying hs,run_underlying hd,run_underlying hel,Result.andThen_ok]
              simp[hm]
          · cases hx
        · cases hx
    · cases h
  · cases h
abbrev fence(ro:Option Nat):Fence:={ Fence.wide with round:=ro }
theorem callsIn_fence{ro:Option Nat}{P:Program}{f:FuncId}{args:Array Value}{w:World}{R:Ending→World→Prop}(h:Calls P f args w R):CallsIn (fence ro) 0 P f args w R:=
  (callsIn_wide (n:=0)).2 h
theorem wpIn_of_upon{ro:Option Nat}{P:Program}{o:Oper}{a:Act}{w:World}{K:Act→World→Prop}{Q:Exit→Act→World→Prop}(hnd:∀ c,o.op≠.defer c)
    (h:o.uponIn (fence ro) 0 P a K Q ((execOp a.eval o).run P w)):o.wpIn (fence ro) 0 P a w K Q:=
  ⟨fun _ _=>trivial,by rw[Oper.semAt_eq _ _ _ hnd];exact h⟩
inductive Fk where
  | func (f:FuncId)
  | yield (i:Nat)
abbrev CallF:=Fk→List AV→St→Option (AV×St)
def opHeavy(P:Program)(call:CallF)(o:Op)(v:Operand→AV)(st:St):Option (AV×St):=
  match o with
  | .store t a x=>(storeA P t (v a) (v x) st).map fun st'=>(undefA,st')
  | .call ⟨.builtin .append, args, ts⟩ => match args[0]?, args[1]? with
    | some s,some x=>appendOpA P ts (v s) (v x) st
    | _,_=>none
  | .call ⟨.builtin .copy, args, ts⟩ => match args[0]?, args[1]? with
    | some s,some x=>copyA P ts (v s) (v x) st
    | _,_=>none
  | .call ⟨.builtin .clear, args, ts⟩ => match args[0]? with
    | some s=>(clearA P ts (v s) st).map fun st'=>(.tup [],st')
    | none=>none
  | .mapUpdate t m k x=>(mapUpdateA P t (v m) (v k) (v x) st).map fun st'=>(.tup [],st')
  | .insert t m k x=>(mapUpdateA P t (v m) (v k) (v x) st).map fun st'=>(.tup [],st')
  | .call ⟨.builtin .delete, args, ts⟩ => match args[0]?, args[1]? with
    | some s,some x=>(deleteA P ts (v s) (v x) st).map fun st'=>(.tup [],st')
    | _,_=>none
  | .call ⟨.value f, args, _⟩ => match v f with
    | .func (.func g) first captured=>call (.func g) ((first++args.toList.map v)++captured) st
    | .yield i=>call (.yield i) (args.toList.map v) st
    | _=>none
  | _=>none
def FkOk (P:Program)(ρ:Ren)(w:World)(cargs:Array Value)(R:Value→World→Prop):Fk→Prop
  | .func f=>((∀ w,(callFunc f cargs).run P w=.ok (.enter f cargs) w)∧Calls P f cargs w fun e w'=>∃ vc,e=.returned vc∧R vc w') ∨
      (∃ z w',(callFunc f cargs).run P w=.ok (.value z) w'∧R z w')
  | .yield i=>∃ L,ρ i=some L∧∃ fn tmps assign body,(Instr.yield L.b cargs).run P w=.ok (.round L.b fn tmps assign body) w ∧
      RoundIn Fence.wide 0 P L.b fn tmps assign body w fun e w'=>∃ vc,e=.returned vc∧R vc w'
def CallOk(P:Program)(G:Nat)(call:CallF):Prop:=
  ∀ f args st v st',call f args st=some (v,st')→∀ ρ w (cargs:Array Value),Rel ρ st w→Glob ρ G→VRs ρ args cargs.toList →
    FkOk P ρ w cargs (fun vc w'=>∃ ρ',VR ρ' v vc∧Good ρ st w ρ' st' w') f
theorem opHeavy_sound{P:Program}{G:Nat}{call:CallF}(hcall:CallOk P G call){ρ:Ren}{o:Oper}{v:Operand→AV}{a:Act}{r:AV}{st st':St}{w:World}(h:opHeavy P call o.op v st=some (r,st'))
    (hv:∀ x,VR ρ (v x) (a.eval x)) (hR:Rel ρ st w) (hG:Glob ρ G) {ro:Option Nat} {K:Act→World→Prop} {Q:Exit→Act→World→Prop}
    (hK:∀ ρ' z w',VR ρ' r z→Good ρ st w ρ' st' w'→K (a.put o.dst z) w'):o.wpIn (fence ro) 0 P a w K Q:=by
  refine wpIn_of_upon (fun c hc=>by rw[hc] at h;simp[opHeavy] at h) ?_
  unfold execOp
  unfold opHeavy at h
  split at h
  · rename_i t ad x ho
    rw[ho]
    simp only[Option.map_eq_some_iff,Prod.mk.injEq] at h
    obtain⟨st1,hs,rfl,rfl⟩:=h
    obtain⟨w',h1,h2⟩:=store_sound hs (hv ad) (hv x) hR
    have:(do Instr.storeAt t (a.eval ad) (a.eval x);pure Next.skip:Sem Next).run P w=.ok .skip w':=by simp[h1]
    show o.uponIn (fence ro) 0 P a K Q ((do Instr.storeAt t (a.eval ad) (a.eval x);pure Next.skip:Sem Next).run P w)
    rw[this]
    exact hK ρ undef w' (.tup _ _ .nil) h2
  · rename_i args ts ho
    rw[ho]
    split at h
    · rename_i s x h0 h1
      obtain⟨z,w',ρ',g1,g2,g3⟩:=append_sound (ty:=o.type) (vs:=args.map a.eval) h (by simp[h0]) (by simp[h1]) (hv s) (hv x) hR
      show o.uponIn (fence ro) 0 P a K Q ((do pure (Next.value (← Builtin.append_ ts o.type (args.map a.eval))):Sem Next).run P w)
      rw[run_v g1]
      exact hK ρ' z w' g3 g2
    · cases h
  · rename_i args ts ho
    rw[ho]
    split at h
    · rename_i s x h0 h1
      obtain⟨z,w',g1,g2,g3⟩:=copy_sound (ty:=o.type) (vs:=args.map a.eval) h (by simp[h0]) (by simp[h1]) (hv s) (hv x) hR
      show o.uponIn (fence ro) 0 P a K Q ((do pure (Next.value (← Builtin.copy_ ts o.type (args.map a.eval))):Sem Next).run P w)
      rw[run_v g1]
      exact hK ρ z w' g3 g2
    · cases h
  · rename_i args ts ho
    rw[ho]
    split at h
    · rename_i s h0
      simp only[Option.map_eq_some_iff,Prod.mk.injEq] at h
      obtain⟨st1,hs,rfl,rfl⟩:=h
      obtain⟨w',g1,g2⟩:=clear_sound (ty:=o.type) (vs:=args.map a.eval) hs (by simp[h0]) (hv s) hR
      show o.uponIn (fence ro) 0 P a K Q ((do pure (Next.value (← Builtin.clear_ ts o.type (args.map a.eval))):Sem Next).run P w)
      rw[run_v g1]
      exact hK ρ _ w' (.tup _ _ .nil) g2
    · cases h
  · rename_i t m k x ho
    rw[ho]
    simp only[Option.map_eq_some_iff,Prod.mk.injEq] at h
    obtain⟨st1,hs,rfl,rfl⟩:=h
    obtain⟨w',h1,h2⟩:=mapUpdate_sound hs (hv m) (hv k) (hv x) hR
    have:(do Instr.mapUpdate t (a.eval m) (a.eval k) (a.eval x);pure Next.skip:Sem Next).run P w=.ok .skip w':=by simp[h1]
    show o.uponIn (fence ro) 0 P a K Q ((do Instr.mapUpdate t (a.eval m) (a.eval k) (a.eval x);pure Next.skip:Sem Next).run P w)
    rw[this]
    exact hK ρ undef w' (.tup _ _ .nil) h2
  · rename_i t m k x ho
    rw[ho]
    simp only[Option.map_eq_some_iff,Prod.mk.injEq] at h
    obtain⟨st1,hs,rfl,rfl⟩:=h
    obtain⟨w',h1,h2⟩:=mapUpdate_sound hs (hv m) (hv k) (hv x) hR
    have:(do Instr.mapUpdate t (a.eval m) (a.eval k) (a.eval x);pure Next.skip:Sem Next).run P w=.ok .skip w':=by simp[h1]
    show o.uponIn (fence ro) 0 P a K Q ((do Instr.mapUpdate t (a.eval m) (a.eval k) (a.eval x);pure Next.skip:Sem Next).run P w)
    rw[this]
    exact hK ρ undef w' (.tup _ _ .nil) h2
  · rename_i args ts ho
    rw[ho]
    split at h
    · rename_i s x h0 h1
      simp only[Option.map_eq_some_iff,Prod.mk.injEq] at h
      obtain⟨st1,hs,rfl,rfl⟩:=h
      obtain⟨w',g1,g2⟩:=delete_sound (ty:=o.type) (vs:=args.map a.eval) hs (by simp[h0]) (by simp[h1]) (hv s) (hv x) hR
      show o.uponIn (fence ro) 0 P a K Q ((do pure (Next.value (← Builtin.delete_ ts o.type (args.map a.eval))):Sem Next).run P w)
      rw[run_v g1]
      exact hK ρ _ w' (.tup _ _ .nil) g2
    · cases h
  · rename_i f args ts ho
    rw[ho]
    split at h
    · rename_i g first captured hf
      have hf':=hv f
      rw[hf] at hf'
      obtain⟨f',c',hea,hfr,hcp⟩:∃ f' c':Array Value,a.eval f=.func (.func g) f' c'∧VRs ρ first f'.toList∧VRs ρ captured c'.toList:=by
        generalize a.eval f=ex at hf'
        cases hf' with | func _ _ _ f' c' hf hc=>exact⟨f',c',rfl,hf,hc⟩
      have hcalls:=hcall (.func g) _ st r st' h ρ w ((f' ++ args.map a.eval)++c') hR hG (by
        rw[Array.toList_append,Array.toList_append,Array.toList_map]
        exact(hfr.append (VRs_map hv _)).append hcp)
      show o.uponIn (fence ro) 0 P a K Q ((do let d ← resolve a.eval ⟨.value f,args,ts⟩ o.type;invoke d.target d.args:Sem Next).run P w)
      have hrun:(do let d ← resolve a.eval ⟨.value f,args,ts⟩ o.type;invoke d.target d.args:Sem Next).run P w=(callFunc g ((f' ++ args.map a.eval)++c')).run P w:=by
        simp only[resolve,hea,Deferred.ofValue,Sem.run_bind,Sem.run_pure,Result.andThen_ok,invoke]
      rw[hrun]
      rcases hcalls with⟨he,hcalls⟩|⟨z,w',g1,ρ',g2,g3⟩
      · rw[he]
        refine⟨by simp[fence,Fence.wide],(callsIn_fence hcalls).mono ?_⟩
        rintro e w' ⟨vc,rfl,ρ',h1,h2⟩
        exact hK ρ' vc w' h1 h2
      · rw[g1]
        exact hK ρ' z w' g2 g3
    · rename_i i hf
      have hf':=hv f
      rw[hf] at hf'
      obtain⟨L,hea,hL⟩:∃ L:Loc,a.eval f=.func (.yield L.b) #[] #[]∧ρ i=some L:=by
        generalize a.eval f=ex at hf'
        cases hf' with | yield _ L hL=>exact⟨L,rfl,hL⟩
      obtain⟨L',hL',fn,tmps,assign,body,g1,g2⟩:=hcall (.yield i) _ st r st' h ρ w (args.map a.eval) hR hG (by
        rw[Array.toList_map];exact VRs_map hv _)
      rw[hL] at hL';cases hL'
      show o.uponIn (fence ro) 0 P a K Q ((do let d ← resolve a.eval ⟨.value f,args,ts⟩ o.type;invoke d.target d.args:Sem Next).run P w)
      have hrun:(do let d ← resolve a.eval ⟨.value f,args,ts⟩ o.type;invoke d.target d.args:Sem Next).run P w=.ok (.round L.b fn tmps assign body) w:=by
        rw[← g1]
        simp only[resolve,hea,Deferred.ofValue,Sem.run_bind,Sem.run_pure,Result.andThen_ok,invoke]
        simp
      rw[hrun]
      refine⟨by simp[fence,Fence.wide],RoundIn.mono (show RoundIn (fence ro) 0 P L.b fn tmps assign body w _ from g2) ?_⟩
      rintro e w' ⟨vc,rfl,ρ',h1,h2⟩
      exact hK ρ' vc w' h1 h2
    · cases h
  · cases h
def wantedA(ops:Array Oper)(fr:Fr)(o:Oper):Option Bool:=
  match o.guard with
  | none=>some true
  | some (j, want) => match (ops[j]?).bind (·.dst) with
    | none=>some false
    | some t => match fr.get t with
      | .bool b=>some (b==want)
      | .top=>none
      | _=>some false
theorem wanted_sound{ρ:Ren}{ops:Array Oper}{fr:Fr}{o:Oper}{b:Bool}{tmps:Array Value}(h:wantedA ops fr o=some b)(hF:FR ρ fr tmps):Region.wanted o (yielded ops tmps)=b:=by
  unfold wantedA at h
  unfold Region.wanted
  cases hg:o.guard with
  | none=>rw[hg] at h;simp only[Option.some.injEq] at h;exact h
  | some p =>
    obtain⟨j,want⟩:=p
    rw[hg] at h
    simp only[] at h ⊢
    unfold yielded
    split at h
    · rename_i hd
      rw[hd];simp only[Option.some.injEq] at h;subst h;rfl
    · rename_i t hd
      rw[hd]
      simp only[Option.bind_some]
      have hlt:t<fr.lim∨fr.get t=.top:=by
        rw[Fr.get_eq]
        cases hb:Nat.blt t fr.lim with
        | false=>right;rfl
        | true=>left;exact blt_iff.1 hb
      rcases hlt with hlt|htop
      · have hs:t<tmps.size:=Nat.lt_of_lt_of_le hlt hF.size
        have hv:=hF.get t
        have hget:tmps.getD t undef=tmps[t]:=by simp[Array.getD,hs]
        rw[hget] at hv
        rw[Array.getElem?_eq_getElem hs]
        split at h
        · rename_i bb hbb
          rw[hbb] at hv
          generalize tmps[t]=x at hv
          cases hv
          simp only[Option.some.injEq] at h;subst h
          simp
        · cases h
        · rename_i hnb hnt
          simp only[Option.some.injEq] at h;subst h
          generalize fr.get t=q at *
          generalize tmps[t]=x at hv
          cases hv<;>first | rfl | (exact absurd rfl hnt) | (exact absurd rfl (hnb _))
      · rw[htop] at h;simp at h
def evOper(P:Program)(G:Nat)(call:CallF)(ops:Array Oper)(o:Oper)(fr:Fr)(st:St):Option (Fr×St):=
  match wantedA ops fr o with
  | none=>none
  | some false=>(fr.put o.dst undefA).map fun f=>(f,st)
  | some true => match clsOf P o.op with
    | .pure => match opPureF o.op P (valA G fr) with
      | some r=>(fr.put o.dst r).map fun f=>(f,st)
      | none=>none
    | .read => match opRead P o.op (valA G fr) st with
      | some r=>(fr.put o.dst r).map fun f=>(f,st)
      | none=>none
    | .alloc => match opAlloc P o.op (valA G fr) with
      | some (ao,f)=>bif st.room then(fr.put o.dst (f st.next)).map fun f=>(f,st.alloc ao) else none
      | none=>none
    | .soft => match softA P o.op (valA G fr) with
      | some r => match r with
        | .slice i _ _ _ _=>bif (st.obj i).brow then(fr.put o.dst r).map fun f=>(f,st) else none
        | _=>none
      | none=>none
    | .heavy => match opHeavy P call o.op (valA G fr) st with
      | some (r,st')=>(fr.put o.dst r).map fun f=>(f,st')
      | none=>none
theorem evOper_sound{P:Program}{G:Nat}{call:CallF}(hcall:CallOk P G call){ops:Array Oper}{o:Oper}{fr fr':Fr}{st st':St}{ρ:Ren}{a:Act}{w:World}
    (h:evOper P G call ops o fr st=some (fr',st')) (hF:FR ρ fr a.tmps) (hR:Rel ρ st w) (hG:Glob ρ G) {ro:Option Nat} {K:Act→World→Prop} {Q:Exit→Act→World→Prop}
    (hK:∀ ρ' a' w',FR ρ' fr' a'.tmps→Good ρ st w ρ' st' w'→a'.defers=a.defers→K a' w') :
    if Region.wanted o (yielded ops a.tmps) then o.wpIn (fence ro) 0 P a w K Q else(∀ f,o.about P w a.eval=some f→(fence ro).fn f)∧K (a.put o.dst undef) w:=by
  have hv:∀ x,VR ρ (valA G fr x) (a.eval x):=valA_VR hF hG
  have hdef:∀ (z:Value),(a.put o.dst z).defers=a.defers:=by intro z;cases o.dst<;>rfl
  have nd:clsOf P o.op≠.heavy→∀ c,o.op≠.defer c:=fun h c hc=>h (by rw[hc];rfl)
  unfold evOper at h
  split at h
  · cases h
  · rename_i hw
    rw[wanted_sound hw hF]
    simp only[Option.map_eq_some_iff,Prod.mk.injEq] at h
    obtain⟨f,hp,rfl,rfl⟩:=h
    simp only[Bool.false_eq_true,if_false]
    exact⟨fun _ _=>trivial,hK ρ _ w (hF.put hp (.tup _ _ .nil)) (.refl hR) (hdef _)⟩
  · rename_i hw
    rw[wanted_sound hw hF]
    simp only[if_true]
    split at h
    · rename_i hcl
      split at h
      · rename_i r hr
        simp only[Option.map_eq_some_iff,Prod.mk.injEq] at h
        obtain⟨f,hp,rfl,rfl⟩:=h
        rw[opPureF_eq] at hr
        obtain⟨z,h1,h2⟩:=opPure_sound hr hv w
        refine wpIn_of_upon (nd (by rw[hcl];simp)) ?_;rw[h1]
        exact hK ρ _ w (hF.put hp h2) (.refl hR) (hdef _)
      · cases h
    · rename_i hcl
      split at h
      · rename_i r hr
        simp only[Option.map_eq_some_iff,Prod.mk.injEq] at h
        obtain⟨f,hp,rfl,rfl⟩:=h
        obtain⟨z,h1,h2⟩:=opRead_sound hr hv hR
        refine wpIn_of_upon (nd (by rw[hcl];simp)) ?_;rw[h1]
        exact hK ρ _ w (hF.put hp h2) (.refl hR) (hdef _)
      · cases h
    · rename_i hcl
      split at h
      · rename_i ao f hr
        cases hroom:st.room with
        | false=>rw[hroom] at h;simp at h
        | true =>
          rw[hroom] at h;simp only[cond_true,Option.map_eq_some_iff,Prod.mk.injEq] at h
          obtain⟨f',hp,rfl,rfl⟩:=h
          obtain⟨z,ob,sh,top,w',h1,h2,h3,h4⟩:=opAlloc_sound hr hv w
          have hext:=Ren.ext_set (ρ:=ρ) (i:=st.next) (L:=⟨w.heap.size,sh,top⟩) (hR.fresh _ (Nat.le_refl _))
          obtain⟨h5,h6⟩:=h4 st.next (ρ.set st.next ⟨w.heap.size,sh,top⟩) hext (Ren.set_same _ _ _)
          refine wpIn_of_upon (nd (by rw[hcl];simp)) ?_;rw[h1]
          exact hK _ _ w' ((hF.ext hext).put hp h6) (Good.alloc' hR hroom h2 h3 h5) (hdef _)
      · cases h
    · rename_i hcl
      split at h
      · rename_i r hr
        split at h
        · rename_i i off len cap es
          cases hrow:(st.obj i).brow with
          | false=>rw[hrow] at h;simp at h
          | true =>
            rw[hrow] at h;simp only[cond_true,Option.map_eq_some_iff,Prod.mk.injEq] at h
            obtain⟨f',hp,rfl,rfl⟩:=h
            obtain⟨z,i',off',len',cap',es',L,w',he,hL,h1,h2,h3,h4,h5⟩:=soft_run hr hv w
            cases he
            obtain⟨hi,hobj⟩:=St.obj_live (AO.live_of_writable (row_writable (AO.row_of_brow hrow)))
            refine wpIn_of_upon (nd (by rw[hcl];simp)) ?_;rw[h1]
            exact hK ρ _ w' (hF.put hp h2) (soft_good (P:=P) (a:=⟨L.b,0,none⟩) hR h3 h4 h5 ⟨i,L,hi,by rw[← hobj];exact hrow,hL,rfl⟩) (hdef _)
        · cases h
      · cases h
    · rename_i hcl
      split at h
      · rename_i r st1 hr
        simp only[Option.map_eq_some_iff,Prod.mk.injEq] at h
        obtain⟨f',hp,rfl,rfl⟩:=h
        refine opHeavy_sound hcall hr hv hR hG ?_
        intro ρ' z w' h1 h2
        exact hK ρ' _ w' ((hF.ext h2.ext).put hp h1) h2 (hdef _)
      · cases h
def thenF(k:Fr→St→Option (Fr×St))(r:Option (Fr×St)):Option (Fr×St):=
  match r with
  | some (fr,st)=>k fr st
  | none=>none
def evList(P:Program)(G:Nat)(call:CallF)(ops:Array Oper)(l:List Oper):Fr→St→Option (Fr×St):=
  List.rec (motive:=fun _=>Fr→St→Option (Fr×St)) (fun fr st=>some (fr,st)) (fun o _ ih fr st=>thenF ih (evOper P G call ops o fr st)) l
theorem evList_sound{P:Program}{G:Nat}{call:CallF}(hcall:CallOk P G call){ops:Array Oper}:∀ (l:List Oper) {fr fr':Fr} {st st':St} {ρ:Ren} {a:Act} {w:World},
    evList P G call ops l fr st=some (fr',st')→FR ρ fr a.tmps→Rel ρ st w→Glob ρ G→∀ {ro:Option Nat} {Q:Exit→Act→World→Prop},
    (∀ ρ' a' w',FR ρ' fr' a'.tmps→Good ρ st w ρ' st' w'→a'.defers=a.defers→Q .normal a' w')→wpListIn (fence ro) 0 P ops Q l a w:=by
  intro l
  induction l with
  | nil =>
    intro fr fr' st st' ρ a w h hF hR hG ro Q hQ
    simp only[evList,Option.some.injEq,Prod.mk.injEq] at h
    obtain⟨rfl,rfl⟩:=h
    exact hQ ρ a w hF (.refl hR) rfl
  | cons o l ih =>
    intro fr fr' st st' ρ a w h hF hR hG ro Q hQ
    simp only[evList,thenF] at h
    split at h
    · rename_i fr1 st1 h1
      unfold wpListIn
      refine evOper_sound hcall h1 hF hR hG ?_
      intro ρ' a' w' hF' hg hd
      refine ih h hF' hg.rel (hG.ext hg.ext) ?_
      intro ρ'' a'' w'' hF'' hg' hd'
      exact hQ ρ'' a'' w'' hF'' (hg.trans hg') (hd'.trans hd)
    · cases h
end
end Go.Ev
