/-
  A quicker evaluator: what a frame and a stack say of a frame of the machine; operands; what stands behind an operation.
-/
import Derived.Test.YtdbkocfbhpgpkaaGreatm22
set_option linter.unusedVariables false
set_option linter.unusedSimpArgs false
namespace Go.Ev
open Go
noncomputable section
structure F0 where
  a0:AV
  a1:AV
  a2:AV
  a3:AV
  a4:AV
  a5:AV
  a6:AV
  a7:AV
def F0.get(f:F0)(i:Nat):AV:=
  match i with
  | 0=>f.a0
  | 1=>f.a1
  | 2=>f.a2
  | 3=>f.a3
  | 4=>f.a4
  | 5=>f.a5
  | 6=>f.a6
  | _=>f.a7
def F0.set(f:F0)(i:Nat)(v:AV):F0:=
  match i with
  | 0=>⟨v,f.a1,f.a2,f.a3,f.a4,f.a5,f.a6,f.a7⟩
  | 1=>⟨f.a0,v,f.a2,f.a3,f.a4,f.a5,f.a6,f.a7⟩
  | 2=>⟨f.a0,f.a1,v,f.a3,f.a4,f.a5,f.a6,f.a7⟩
  | 3=>⟨f.a0,f.a1,f.a2,v,f.a4,f.a5,f.a6,f.a7⟩
  | 4=>⟨f.a0,f.a1,f.a2,f.a3,v,f.a5,f.a6,f.a7⟩
  | 5=>⟨f.a0,f.a1,f.a2,f.a3,f.a4,v,f.a6,f.a7⟩
  | 6=>⟨f.a0,f.a1,f.a2,f.a3,f.a4,f.a5,v,f.a7⟩
  | _=>⟨f.a0,f.a1,f.a2,f.a3,f.a4,f.a5,f.a6,v⟩
def F0.s0(f:F0)(v:AV):F0:=F0.rec (motive:=fun _=>AV→F0) (fun x0 x1 x2 x3 x4 x5 x6 x7 v=>F0.mk v x1 x2 x3 x4 x5 x6 x7) f v
def F0.s1(f:F0)(v:AV):F0:=F0.rec (motive:=fun _=>AV→F0) (fun x0 x1 x2 x3 x4 x5 x6 x7 v=>F0.mk x0 v x2 x3 x4 x5 x6 x7) f v
def F0.s2(f:F0)(v:AV):F0:=F0.rec (motive:=fun _=>AV→F0) (fun x0 x1 x2 x3 x4 x5 x6 x7 v=>F0.mk x0 x1 v x3 x4 x5 x6 x7) f v
def F0.s3(f:F0)(v:AV):F0:=F0.rec (motive:=fun _=>AV→F0) (fun x0 x1 x2 x3 x4 x5 x6 x7 v=>F0.mk x0 x1 x2 v x4 x5 x6 x7) f v
def F0.s4(f:F0)(v:AV):F0:=F0.rec (motive:=fun _=>AV→F0) (fun x0 x1 x2 x3 x4 x5 x6 x7 v=>F0.mk x0 x1 x2 x3 v x5 x6 x7) f v
def F0.s5(f:F0)(v:AV):F0:=F0.rec (motive:=fun _=>AV→F0) (fun x0 x1 x2 x3 x4 x5 x6 x7 v=>F0.mk x0 x1 x2 x3 x4 v x6 x7) f v
def F0.s6(f:F0)(v:AV):F0:=F0.rec (motive:=fun _=>AV→F0) (fun x0 x1 x2 x3 x4 x5 x6 x7 v=>F0.mk x0 x1 x2 x3 x4 x5 v x7) f v
def F0.s7(f:F0)(v:AV):F0:=F0.rec (motive:=fun _=>AV→F0) (fun x0 x1 x2 x3 x4 x5 x6 x7 v=>F0.mk x0 x1 x2 x3 x4 x5 x6 v) f v
structure F1 where
  a0:F0
  a1:F0
  a2:F0
  a3:F0
  a4:F0
  a5:F0
  a6:F0
  a7:F0
def F1.get(f:F1)(i:Nat):F0:=
  match i with
  | 0=>f.a0
  | 1=>f.a1
  | 2=>f.a2
  | 3=>f.a3
  | 4=>f.a4
  | 5=>f.a5
  | 6=>f.a6
  | _=>f.a7
def F1.set(f:F1)(i:Nat)(v:F0):F1:=
  match i with
  | 0=>⟨v,f.a1,f.a2,f.a3,f.a4,f.a5,f.a6,f.a7⟩
  | 1=>⟨f.a0,v,f.a2,f.a3,f.a4,f.a5,f.a6,f.a7⟩
  | 2=>⟨f.a0,f.a1,v,f.a3,f.a4,f.a5,f.a6,f.a7⟩
  | 3=>⟨f.a0,f.a1,f.a2,v,f.a4,f.a5,f.a6,f.a7⟩
  | 4=>⟨f.a0,f.a1,f.a2,f.a3,v,f.a5,f.a6,f.a7⟩
  | 5=>⟨f.a0,f.a1,f.a2,f.a3,f.a4,v,f.a6,f.a7⟩
  | 6=>⟨f.a0,f.a1,f.a2,f.a3,f.a4,f.a5,v,f.a7⟩
  | _=>⟨f.a0,f.a1,f.a2,f.a3,f.a4,f.a5,f.a6,v⟩
def F1.s0(f:F1)(v:F0):F1:=F1.rec (motive:=fun _=>F0→F1) (fun x0 x1 x2 x3 x4 x5 x6 x7 v=>F1.mk v x1 x2 x3 x4 x5 x6 x7) f v
def F1.s1(f:F1)(v:F0):F1:=F1.rec (motive:=fun _=>F0→F1) (fun x0 x1 x2 x3 x4 x5 x6 x7 v=>F1.mk x0 v x2 x3 x4 x5 x6 x7) f v
def F1.s2(f:F1)(v:F0):F1:=F1.rec (motive:=fun _=>F0→F1) (fun x0 x1 x2 x3 x4 x5 x6 x7 v=>F1.mk x0 x1 v x3 x4 x5 x6 x7) f v
def F1.s3(f:F1)(v:F0):F1:=F1.rec (motive:=fun _=>F0→F1) (fun x0 x1 x2 x3 x4 x5 x6 x7 v=>F1.mk x0 x1 x2 v x4 x5 x6 x7) f v
def F1.s4(f:F1)(v:F0):F1:=F1.rec (motive:=fun _=>F0→F1) (fun x0 x1 x2 x3 x4 x5 x6 x7 v=>F1.mk x0 x1 x2 x3 v x5 x6 x7) f v
def F1.s5(f:F1)(v:F0):F1:=F1.rec (motive:=fun _=>F0→F1) (fun x0 x1 x2 x3 x4 x5 x6 x7 v=>F1.mk x0 x1 x2 x3 x4 v x6 x7) f v
def F1.s6(f:F1)(v:F0):F1:=F1.rec (motive:=fun _=>F0→F1) (fun x0 x1 x2 x3 x4 x5 x6 x7 v=>F1.mk x0 x1 x2 x3 x4 x5 v x7) f v
def F1.s7(f:F1)(v:F0):F1:=F1.rec (motive:=fun _=>F0→F1) (fun x0 x1 x2 x3 x4 x5 x6 x7 v=>F1.mk x0 x1 x2 x3 x4 x5 x6 v) f v
structure F2 where
  a0:F1
  a1:F1
  a2:F1
  a3:F1
  a4:F1
  a5:F1
  a6:F1
  a7:F1
def F2.get(f:F2)(i:Nat):F1:=
  match i with
  | 0=>f.a0
  | 1=>f.a1
  | 2=>f.a2
  | 3=>f.a3
  | 4=>f.a4
  | 5=>f.a5
  | 6=>f.a6
  | _=>f.a7
def F2.set(f:F2)(i:Nat)(v:F1):F2:=
  match i with
  | 0=>⟨v,f.a1,f.a2,f.a3,f.a4,f.a5,f.a6,f.a7⟩
  | 1=>⟨f.a0,v,f.a2,f.a3,f.a4,f.a5,f.a6,f.a7⟩
  | 2=>⟨f.a0,f.a1,v,f.a3,f.a4,f.a5,f.a6,f.a7⟩
  | 3=>⟨f.a0,f.a1,f.a2,v,f.a4,f.a5,f.a6,f.a7⟩
  | 4=>⟨f.a0,f.a1,f.a2,f.a3,v,f.a5,f.a6,f.a7⟩
  | 5=>⟨f.a0,f.a1,f.a2,f.a3,f.a4,v,f.a6,f.a7⟩
  | 6=>⟨f.a0,f.a1,f.a2,f.a3,f.a4,f.a5,v,f.a7⟩
  | _=>⟨f.a0,f.a1,f.a2,f.a3,f.a4,f.a5,f.a6,v⟩
def F2.s0(f:F2)(v:F1):F2:=F2.rec (motive:=fun _=>F1→F2) (fun x0 x1 x2 x3 x4 x5 x6 x7 v=>F2.mk v x1 x2 x3 x4 x5 x6 x7) f v
def F2.s1(f:F2)(v:F1):F2:=F2.rec (motive:=fun _=>F1→F2) (fun x0 x1 x2 x3 x4 x5 x6 x7 v=>F2.mk x0 v x2 x3 x4 x5 x6 x7) f v
def F2.s2(f:F2)(v:F1):F2:=F2.rec (motive:=fun _=>F1→F2) (fun x0 x1 x2 x3 x4 x5 x6 x7 v=>F2.mk x0 x1 v x3 x4 x5 x6 x7) f v
def F2.s3(f:F2)(v:F1):F2:=F2.rec (motive:=fun _=>F1→F2) (fun x0 x1 x2 x3 x4 x5 x6 x7 v=>F2.mk x0 x1 x2 v x4 x5 x6 x7) f v
def F2.s4(f:F2)(v:F1):F2:=F2.rec (motive:=fun _=>F1→F2) (fun x0 x1 x2 x3 x4 x5 x6 x7 v=>F2.mk x0 x1 x2 x3 v x5 x6 x7) f v
def F2.s5(f:F2)(v:F1):F2:=F2.rec (motive:=fun _=>F1→F2) (fun x0 x1 x2 x3 x4 x5 x6 x7 v=>F2.mk x0 x1 x2 x3 x4 v x6 x7) f v
def F2.s6(f:F2)(v:F1):F2:=F2.rec (motive:=fun _=>F1→F2) (fun x0 x1 x2 x3 x4 x5 x6 x7 v=>F2.mk x0 x1 x2 x3 x4 x5 v x7) f v
def F2.s7(f:F2)(v:F1):F2:=F2.rec (motive:=fun _=>F1→F2) (fun x0 x1 x2 x3 x4 x5 x6 x7 v=>F2.mk x0 x1 x2 x3 x4 x5 x6 v) f v
theorem F0.get_set_same(f:F0)(i:Nat)(h:i<8)(v):(f.set i v).get i=v:=by
  have:i=0∨i=1∨i=2∨i=3∨i=4∨i=5∨i=6∨i=7:=by omega
  rcases this with rfl|rfl|rfl|rfl|rfl|rfl|rfl|rfl<;>rfl
theorem F0.get_set_ne(f:F0)(i j:Nat)(hi:i<8)(hj:j<8)(h:i≠j)(v):(f.set i v).get j=f.get j:=by
  have hi:i=0∨i=1∨i=2∨i=3∨i=4∨i=5∨i=6∨i=7:=by omega
  have hj:j=0∨j=1∨j=2∨j=3∨j=4∨j=5∨j=6∨j=7:=by omega
  rcases hi with rfl|rfl|rfl|rfl|rfl|rfl|rfl|rfl<;>rcases hj with rfl|rfl|rfl|rfl|rfl|rfl|rfl|rfl<;>first|rfl|exact absurd rfl h
theorem F1.get_set_same(f:F1)(i:Nat)(h:i<8)(v):(f.set i v).get i=v:=by
  have:i=0∨i=1∨i=2∨i=3∨i=4∨i=5∨i=6∨i=7:=by omega
  rcases this with rfl|rfl|rfl|rfl|rfl|rfl|rfl|rfl<;>rfl
theorem F1.get_set_ne(f:F1)(i j:Nat)(hi:i<8)(hj:j<8)(h:i≠j)(v):(f.set i v).get j=f.get j:=by
  have hi:i=0∨i=1∨i=2∨i=3∨i=4∨i=5∨i=6∨i=7:=by omega
  have hj:j=0∨j=1∨j=2∨j=3∨j=4∨j=5∨j=6∨j=7:=by omega
  rcases hi with rfl|rfl|rfl|rfl|rfl|rfl|rfl|rfl<;>rcases hj with rfl|rfl|rfl|rfl|rfl|rfl|rfl|rfl<;>first|rfl|exact absurd rfl h
theorem F2.get_set_same(f:F2)(i:Nat)(h:i<8)(v):(f.set i v).get i=v:=by
  have:i=0∨i=1∨i=2∨i=3∨i=4∨i=5∨i=6∨i=7:=by omega
  rcases this with rfl|rfl|rfl|rfl|rfl|rfl|rfl|rfl<;>rfl
theorem F2.get_set_ne(f:F2)(i j:Nat)(hi:i<8)(hj:j<8)(h:i≠j)(v):(f.set i v).get j=f.get j:=by
  have hi:i=0∨i=1∨i=2∨i=3∨i=4∨i=5∨i=6∨i=7:=by omega
  have hj:j=0∨j=1∨j=2∨j=3∨j=4∨j=5∨j=6∨j=7:=by omega
  rcases hi with rfl|rfl|rfl|rfl|rfl|rfl|rfl|rfl<;>rcases hj with rfl|rfl|rfl|rfl|rfl|rfl|rfl|rfl<;>first|rfl|exact absurd rfl h
def F2.at(f:F2)(i:Nat):AV:=((f.get (i / 64 % 8)).get (i / 8 % 8)).get (i % 8)
def F2.put(f:F2)(i:Nat)(v:AV):F2:=f.set (i / 64 % 8) ((f.get (i / 64 % 8)).set (i / 8 % 8) (((f.get (i / 64 % 8)).get (i / 8 % 8)).set (i % 8) v))
theorem F2.at_put_same(f:F2)(i:Nat)(v:AV):(f.put i v).at i=v:=by
  unfold F2.at F2.put
  rw[F2.get_set_same _ _ (Nat.mod_lt _ (by omega)),F1.get_set_same _ _ (Nat.mod_lt _ (by omega)),F0.get_set_same _ _ (Nat.mod_lt _ (by omega))]
theorem F2.at_put_ne(f:F2)(i j:Nat)(hi:i<512)(hj:j<512)(h:i≠j)(v:AV):(f.put i v).at j=f.at j:=by
  unfold F2.at F2.put
  by_cases h2:i / 64 % 8=j / 64 % 8
  · rw[h2,F2.get_set_same _ _ (Nat.mod_lt _ (by omega))]
    by_cases h1:i / 8 % 8=j / 8 % 8
    · rw[h1,F1.get_set_same _ _ (Nat.mod_lt _ (by omega))]
      rw[F0.get_set_ne _ _ _ (Nat.mod_lt _ (by omega)) (Nat.mod_lt _ (by omega)) (by omega)]
    · rw[F1.get_set_ne _ _ _ (Nat.mod_lt _ (by omega)) (Nat.mod_lt _ (by omega)) h1]
  · rw[F2.get_set_ne _ _ _ (Nat.mod_lt _ (by omega)) (Nat.mod_lt _ (by omega)) h2]
structure F0.G(i:Nat) where
  run:F0→AV
  ok:∀ f,run f=f.get i
def F0.g (i:Nat):F0.G i:=
  match i with
  | 0=>⟨F0.a0,fun _=>rfl⟩
  | 1=>⟨F0.a1,fun _=>rfl⟩
  | 2=>⟨F0.a2,fun _=>rfl⟩
  | 3=>⟨F0.a3,fun _=>rfl⟩
  | 4=>⟨F0.a4,fun _=>rfl⟩
  | 5=>⟨F0.a5,fun _=>rfl⟩
  | 6=>⟨F0.a6,fun _=>rfl⟩
  | _+7=>⟨F0.a7,fun _=>rfl⟩
structure F0.S(i:Nat) where
  run:F0→AV→F0
  ok:∀ f v,run f v=f.set i v
def F0.s (i:Nat):F0.S i:=
  match i with
  | 0=>⟨F0.s0,fun _ _=>rfl⟩
  | 1=>⟨F0.s1,fun _ _=>rfl⟩
  | 2=>⟨F0.s2,fun _ _=>rfl⟩
  | 3=>⟨F0.s3,fun _ _=>rfl⟩
  | 4=>⟨F0.s4,fun _ _=>rfl⟩
  | 5=>⟨F0.s5,fun _ _=>rfl⟩
  | 6=>⟨F0.s6,fun _ _=>rfl⟩
  | _+7=>⟨F0.s7,fun _ _=>rfl⟩
structure F1.G(i:Nat) where
  run:F1→F0
  ok:∀ f,run f=f.get i
def F1.g (i:Nat):F1.G i:=
  match i with
  | 0=>⟨F1.a0,fun _=>rfl⟩
  | 1=>⟨F1.a1,fun _=>rfl⟩
  | 2=>⟨F1.a2,fun _=>rfl⟩
  | 3=>⟨F1.a3,fun _=>rfl⟩
  | 4=>⟨F1.a4,fun _=>rfl⟩
  | 5=>⟨F1.a5,fun _=>rfl⟩
  | 6=>⟨F1.a6,fun _=>rfl⟩
  | _+7=>⟨F1.a7,fun _=>rfl⟩
structure F1.S(i:Nat) where
  run:F1→F0→F1
  ok:∀ f v,run f v=f.set i v
def F1.s (i:Nat):F1.S i:=
  match i with
  | 0=>⟨F1.s0,fun _ _=>rfl⟩
  | 1=>⟨F1.s1,fun _ _=>rfl⟩
  | 2=>⟨F1.s2,fun _ _=>rfl⟩
  | 3=>⟨F1.s3,fun _ _=>rfl⟩
  | 4=>⟨F1.s4,fun _ _=>rfl⟩
  | 5=>⟨F1.s5,fun _ _=>rfl⟩
  | 6=>⟨F1.s6,fun _ _=>rfl⟩
  | _+7=>⟨F1.s7,fun _ _=>rfl⟩
structure F2.G(i:Nat) where
  run:F2→F1
  ok:∀ f,run f=f.get i
def F2.g (i:Nat):F2.G i:=
  match i with
  | 0=>⟨F2.a0,fun _=>rfl⟩
  | 1=>⟨F2.a1,fun _=>rfl⟩
  | 2=>⟨F2.a2,fun _=>rfl⟩
  | 3=>⟨F2.a3,fun _=>rfl⟩
  | 4=>⟨F2.a4,fun _=>rfl⟩
  | 5=>⟨F2.a5,fun _=>rfl⟩
  | 6=>⟨F2.a6,fun _=>rfl⟩
  | _+7=>⟨F2.a7,fun _=>rfl⟩
structure F2.S(i:Nat) where
  run:F2→F1→F2
  ok:∀ f v,run f v=f.set i v
def F2.s (i:Nat):F2.S i:=
  match i with
  | 0=>⟨F2.s0,fun _ _=>rfl⟩
  | 1=>⟨F2.s1,fun _ _=>rfl⟩
  | 2=>⟨F2.s2,fun _ _=>rfl⟩
  | 3=>⟨F2.s3,fun _ _=>rfl⟩
  | 4=>⟨F2.s4,fun _ _=>rfl⟩
  | 5=>⟨F2.s5,fun _ _=>rfl⟩
  | 6=>⟨F2.s6,fun _ _=>rfl⟩
  | _+7=>⟨F2.s7,fun _ _=>rfl⟩
structure AtC(i:Nat) where
  run:F2→AV
  ok:∀ f,run f=f.at i
def atR (p:F2→F1)(q:F1→F0)(r:F0→AV)(f:F2):AV:=r (q (p f))
def atC (i:Nat):AtC i:=
  match F2.g (i / 64 % 8),F1.g (i / 8 % 8),F0.g (i % 8) with
  | ⟨p,hp⟩,⟨q,hq⟩,⟨r,hr⟩=>⟨atR p q r,fun f=>by unfold atR F2.at;rw[hr,hq,hp]⟩
structure PutC(i:Nat) where
  run:F2→AV→F2
  ok:∀ f v,run f v=f.put i v
def putR (p:F2→F1)(q:F1→F0)(p':F2→F1→F2)(q':F1→F0→F1)(r':F0→AV→F0)(f:F2)(v:AV):F2:=p' f (q' (p f) (r' (q (p f)) v))
def putC (i:Nat):PutC i:=
  match F2.g (i / 64 % 8),F1.g (i / 8 % 8),F2.s (i / 64 % 8),F1.s (i / 8 % 8),F0.s (i % 8) with
  | ⟨p,hp⟩,⟨q,hq⟩,⟨p',hp'⟩,⟨q',hq'⟩,⟨r',hr'⟩=>⟨putR p q p' q' r',fun f v=>by unfold putR F2.put;rw[hp',hq',hr',hq,hp]⟩
inductive LS where
  | nil
  | cons (v:AV) (l:LS)
def LS.hd(l:LS):AV:=LS.rec (motive:=fun _=>AV) .top (fun v _ _=>v) l
def LS.tl(l:LS):LS:=LS.rec (motive:=fun _=>LS) .nil (fun _ t _=>t) l
def LS.at(l:LS):Nat→AV
  | 0=>l.hd
  | k+1=>l.tl.at k
structure LatC(k:Nat) where
  run:LS→AV
  ok:∀ l,run l=l.at k
def tlR (g:LS→AV)(l:LS):AV:=g l.tl
def latC:(k:Nat)→LatC k
  | 0=>⟨LS.hd,fun _=>rfl⟩
  | k + 1 => match latC k with
    | ⟨g,hg⟩=>⟨tlR g,fun l=>by unfold tlR;rw[hg];rfl⟩
end
end Go.Ev
namespace Go.Ev
open Go
noncomputable section
structure QF(lim X:Nat)(ρ:Ren)(f:F2)(tmps:Array Value):Prop where
  le:lim≤512
  size:lim≤tmps.size
  val:∀ i,i<lim→X.testBit i=false→VR ρ (f.at i) (tmps.getD i undef)
theorem QF.ext{lim X:Nat}{ρ ρ':Ren}(e:Ext ρ ρ'){f:F2}{tmps:Array Value}(h:QF lim X ρ f tmps):QF lim X ρ' f tmps:=⟨h.le,h.size,fun i hi hx=>(h.val i hi hx).ext e⟩
abbrev En:=List (Option Tmp)
def LR (lim:Nat)(ρ:Ren)(E:En)(L:LS)(tmps:Array Value):Prop:=∀ (k:Nat) (t:Tmp),E[k]? = some (some t)→t<lim∧VR ρ (L.at k) (tmps.getD t undef)
theorem LR.ext{lim:Nat}{ρ ρ':Ren}(e:Ext ρ ρ'){E:En}{L:LS}{tmps:Array Value}(h:LR lim ρ E L tmps):LR lim ρ' E L tmps:=fun k t hk=>⟨(h k t hk).1,(h k t hk).2.ext e⟩
theorem LR.nil(lim:Nat)(ρ:Ren)(L:LS)(tmps:Array Value):LR lim ρ [] L tmps:=fun k t h=>by simp at h
def findE(t:Tmp):En→Nat→Option Nat
  | [],_=>none
  | some u::E,k=>bif Nat.beq u t then some k else findE t E (k+1)
  | none::E,k=>findE t E (k+1)
theorem findE_spec{t:Tmp}:∀ {E:En} {k j:Nat},findE t E k=some j→k≤j∧E[j-k]? = some (some t)
  | [],_,_,h=>by cases h
  | none :: E, k, j, h => by
    obtain⟨h1,h2⟩:=findE_spec (E:=E) h
    refine⟨by omega,?_⟩
    rw[show j-k=(j-(k+1))+1 by omega,List.getElem?_cons_succ];exact h2
  | some u :: E, k, j, h => by
    simp only[findE] at h
    cases hb:Nat.beq u t with
    | true =>
      rw[hb] at h
      simp only[cond_true,Option.some.injEq] at h
      subst h
      have:=Nat.eq_of_beq_eq_true hb
      subst this
      simp
    | false =>
      rw[hb] at h
      obtain⟨h1,h2⟩:=findE_spec (E:=E) h
      refine⟨by omega,?_⟩
      rw[show j-k=(j-(k+1))+1 by omega,List.getElem?_cons_succ];exact h2
def killE(t:Tmp):En→En
  | []=>[]
  | some u::E=>(bif Nat.beq u t then none else some u)::killE t E
  | none::E=>none::killE t E
theorem killE_get{t:Tmp}:∀ {E:En} {k:Nat} {u:Tmp},(killE t E)[k]? = some (some u)→E[k]? = some (some u)∧u≠t
  | [],k,u,h=>by simp[killE] at h
  | none::E,0,u,h=>by simp[killE] at h
  | none :: E, k + 1, u, h => by
    simp only[killE,List.getElem?_cons_succ] at h ⊢
    exact killE_get h
  | some x :: E, 0, u, h => by
    simp only[killE,List.getElem?_cons_zero,Option.some.injEq] at h ⊢
    cases hb:Nat.beq x t with
    | true=>rw[hb] at h;cases h
    | false =>
      rw[hb] at h
      simp only[cond_false,Option.some.injEq] at h
      subst h
      exact⟨rfl,fun e=>by rw[beq_iff.2 e] at hb;cases hb⟩
  | some x :: E, k + 1, u, h => by
    simp only[killE,List.getElem?_cons_succ] at h ⊢
    exact killE_get h
structure Sta where
  G:Nat
  lim:Nat
  X:Nat
def valQ (S:Sta)(E:En)(f:F2)(L:LS):Operand→AV
  | .tmp t => match findE t E 0 with
    | some k=>L.at k
    | none=>bif Nat.testBit S.X t then .top else bif Nat.blt t S.lim then f.at t else .top
  | .const v=>constA v
  | .global g=>bif Nat.blt g S.G then .ptr g 0 else .top
  | .func f=>.func (.func f) [] []
theorem valQ_VR{S:Sta}{ρ:Ren}{E:En}{f:F2}{L:LS}{a:Act}(hF:QF S.lim S.X ρ f a.tmps)(hL:LR S.lim ρ E L a.tmps)(hg:Glob ρ S.G)(x:Operand):VR ρ (valQ S E f L x) (a.eval x):=by
  cases x with
  | tmp t =>
    simp only[valQ]
    split
    · rename_i k hk
      obtain⟨_,h2⟩:=findE_spec hk
      exact(hL _ _ h2).2
    · cases hx:Nat.testBit S.X t with
      | true=>exact .top _
      | false =>
        cases hb:Nat.blt t S.lim with
        | false=>exact .top _
        | true=>exact hF.val t (blt_iff.1 hb) hx
  | const v=>exact constA_VR ρ v
  | func f=>exact .func _ _ _ _ _ .nil .nil
  | global g =>
    simp only[valQ]
    cases hb:Nat.blt g S.G with
    | false=>exact .top _
    | true =>
      obtain⟨top,ht⟩:=hg g (blt_iff.1 hb)
      exact VR.ptr (ρ:=ρ) g 0 ⟨g,0,top⟩ ht
structure GetC(S:Sta)(E:En)(x:Operand) where
  run:F2→LS→AV
  ok:∀ f L,run f L=valQ S E f L x
def getL (g:LS→AV)(_:F2)(L:LS):AV:=g L
def getF (g:F2→AV)(f:F2)(_:LS):AV:=g f
def getK (v:AV)(_:F2)(_:LS):AV:=v
def getC (S:Sta)(E:En)(x:Operand):GetC S E x:=
  match x with
  | .tmp t => match h : findE t E 0 with
    | some k => match latC k with
      | ⟨g,hg⟩=>⟨getL g,fun f L=>by simp only[valQ,h];exact hg L⟩
    | none => match hx : Nat.testBit S.X t with
      | true=>⟨getK .top,fun f L=>by simp only[valQ,h,hx,cond_true];rfl⟩
      | false => match hb : Nat.blt t S.lim with
        | true => match atC t with
          | ⟨g,hg⟩=>⟨getF g,fun f L=>by simp only[valQ,h,hx,hb,cond_true,cond_false];exact hg f⟩
        | false=>⟨getK .top,fun f L=>by simp only[valQ,h,hx,hb,cond_false];rfl⟩
  | .const v=>⟨getK (constA v),fun _ _=>rfl⟩
  | .global g => match hb : Nat.blt g S.G with
    | true=>⟨getK (.ptr g 0),fun _ _=>by simp only[valQ,hb,cond_true];rfl⟩
    | false=>⟨getK .top,fun _ _=>by simp only[valQ,hb,cond_false];rfl⟩
  | .func f=>⟨getK (.func (.func f) [] []),fun _ _=>rfl⟩
inductive RR where
  | no
  | ok (f:F2) (st:St)
abbrev Rn:=CallF→F2→LS→St→RR
def OpsOk(P:Program)(S:Sta)(ops:Array Oper)(l:List Oper)(E:En)(run:Rn):Prop:=
  ∀ call,CallOk P S.G call→∀ f L st f' st',run call f L st=.ok f' st'→∀ ρ (a:Act) w,QF S.lim S.X ρ f a.tmps→LR S.lim ρ E L a.tmps→Rel ρ st w→Glob ρ S.G →
    ∀ (ro:Option Nat) (Q:Exit→Act→World→Prop),(∀ ρ' a' w',QF S.lim S.X ρ' f' a'.tmps→Good ρ st w ρ' st' w'→a'.defers=a.defers→Q .normal a' w')→wpListIn (fence ro) 0 P ops Q l a w
structure OpsC(P:Program)(S:Sta)(ops:Array Oper)(l:List Oper)(E:En) where
  run:Rn
  ok:OpsOk P S ops l E run
structure ContC(P:Program)(S:Sta)(ops:Array Oper)(l:List Oper)(E:En)(dst:Option Tmp) where
  run:AV→Rn
  ok:∀ call,CallOk P S.G call→∀ v f L st f' st',run v call f L st=.ok f' st'→∀ ρ (a:Act) w z,VR ρ v z→QF S.lim S.X ρ f a.tmps→LR S.lim ρ E L a.tmps→Rel ρ st w→Glob ρ S.G →
    ∀ (ro:Option Nat) (Q:Exit→Act→World→Prop),(∀ ρ' a' w',QF S.lim S.X ρ' f' a'.tmps→Good ρ st w ρ' st' w'→a'.defers=a.defers→Q .normal a' w')→wpListIn (fence ro) 0 P ops Q l (a.put dst z) w
def contN(r:Rn)(_:AV):Rn:=r
def contL(r:Rn)(v:AV)(call:CallF)(f:F2)(L:LS)(st:St):RR:=r call f (.cons v L) st
def contF(p:F2→AV→F2)(r:Rn)(v:AV)(call:CallF)(f:F2)(L:LS)(st:St):RR:=r call (p f v) L st
def contX(_:AV):Rn:=fun _ _ _ _=>.no
theorem put_getD(tmps:Array Value)(d t:Nat)(z:Value):(tmps.setIfInBounds d z).getD t undef=if t=d∧d<tmps.size then z else tmps.getD t undef:=by
  rw[Array.getD_eq_getD_getElem?,Array.getElem?_setIfInBounds,Array.getD_eq_getD_getElem?]
  by_cases h:d=t
  · subst h
    by_cases h2:d<tmps.size
    · simp[h2]
    · simp[h2]
  · have:¬t=d:=fun e=>h e.symm
    simp[h,this]
theorem killE_LR{lim:Nat}{ρ:Ren}{E:En}{L:LS}{tmps:Array Value}(h:LR lim ρ E L tmps)(d:Nat)(z:Value):LR lim ρ (killE d E) L (tmps.setIfInBounds d z):=by
  intro k t hk
  obtain⟨h1,h2⟩:=killE_get hk
  obtain⟨h3,h4⟩:=h k t h1
  exact⟨h3,by rw[put_getD,if_neg (fun e=>h2 e.1)];exact h4⟩
def ContOk(P:Program)(S:Sta)(ops:Array Oper)(l:List Oper)(E:En)(dst:Option Tmp)(run:AV→Rn):Prop:=
  ∀ call,CallOk P S.G call→∀ v f L st f' st',run v call f L st=.ok f' st'→∀ ρ (a:Act) w z,VR ρ v z→QF S.lim S.X ρ f a.tmps→LR S.lim ρ E L a.tmps→Rel ρ st w→Glob ρ S.G →
    ∀ (ro:Option Nat) (Q:Exit→Act→World→Prop),(∀ ρ' a' w',QF S.lim S.X ρ' f' a'.tmps→Good ρ st w ρ' st' w'→a'.defers=a.defers→Q .normal a' w')→wpListIn (fence ro) 0 P ops Q l (a.put dst z) w
theorem contN_ok{P:Program}{S:Sta}{ops:Array Oper}{l:List Oper}{E:En}{r:Rn}(hr:OpsOk P S ops l E r):ContOk P S ops l E none (contN r):=
  fun call hc v f L st f' st' h ρ a w z _ hF hL hR hG ro Q hQ=>hr call hc f L st f' st' h ρ a w hF hL hR hG ro Q hQ
theorem contX_ok{P:Program}{S:Sta}{ops:Array Oper}{l:List Oper}{E:En}(dst:Option Tmp):ContOk P S ops l E dst contX:=
  fun call hc v f L st f' st' h=>by cases h
theorem contL_ok{P:Program}{S:Sta}{ops:Array Oper}{l:List Oper}{E:En}{d:Tmp}(hb:Nat.blt d S.lim=true)(hx:Nat.testBit S.X d=true){r:Rn}(hr:OpsOk P S ops l (some d::killE d E) r):ContOk P S ops l E (some d) (contL r):=
  fun call hc v f L st f' st' h ρ a w z hv hF hL hR hG ro Q hQ=>by
            refine hr call hc f (.cons v L) st f' st' h ρ (a.put (some d) z) w ⟨hF.le,by simpa[Act.put] using hF.size,?_⟩ ?_ hR hG ro Q hQ
            · intro i hi hxi
              simp only[Act.put]
              rw[put_getD,if_neg (fun e=>by rw[e.1,hx] at hxi;cases hxi)]
              exact hF.val i hi hxi
            · intro k t hk
              cases k with
              | zero =>
                simp only[List.getElem?_cons_zero,Option.some.injEq] at hk
                subst hk
                refine⟨blt_iff.1 hb,?_⟩
                simp only[Act.put]
                rw[put_getD,if_pos ⟨rfl,by have:=blt_iff.1 hb;have:=hF.size;omega⟩]
                exact hv
              | succ k =>
                simp only[List.getElem?_cons_succ] at hk
                exact killE_LR hL d z k t hk
theorem contF_ok{P:Program}{S:Sta}{ops:Array Oper}{l:List Oper}{E:En}{d:Tmp}(hb:Nat.blt d S.lim=true){p:F2→AV→F2}(hp:∀ f v,p f v=f.put d v){r:Rn}(hr:OpsOk P S ops l (killE d E) r):ContOk P S ops l E (some d) (contF p r):=
  fun call hc v f L st f' st' h ρ a w z hv hF hL hR hG ro Q hQ=>by
            have hd:=blt_iff.1 hb
            have hlim:=hF.le
            refine hr call hc (p f v) L st f' st' h ρ (a.put (some d) z) w ⟨hF.le,by simpa[Act.put] using hF.size,?_⟩ (killE_LR hL d z) hR hG ro Q hQ
            intro i hi hxi
            simp only[Act.put]
            rw[hp,put_getD]
            by_cases e:i=d
            · subst e
              rw[F2.at_put_same,if_pos ⟨rfl,by have:=hF.size;omega⟩];exact hv
            · rw[F2.at_put_ne f d i (by omega) (by omega) (Ne.symm e),if_neg (fun h=>e h.1)]
              exact hF.val i hi hxi
section
variable {P:Program}{S:Sta}{ops:Array Oper}{l:List Oper}{E:En}
def contN'(x:OpsC P S ops l E):ContC P S ops l E none:=OpsC.rec (motive:=fun _=>ContC P S ops l E none) (fun r hr=>⟨contN r,contN_ok hr⟩) x
def contL'{d:Tmp}(hb:Nat.blt d S.lim=true)(hx:Nat.testBit S.X d=true)(x:OpsC P S ops l (some d::killE d E)):ContC P S ops l E (some d):=
  OpsC.rec (motive:=fun _=>ContC P S ops l E (some d)) (fun r hr=>⟨contL r,contL_ok hb hx hr⟩) x
def contF'{d:Tmp}(hb:Nat.blt d S.lim=true)(y:PutC d)(x:OpsC P S ops l (killE d E)):ContC P S ops l E (some d):=
  PutC.rec (motive:=fun _=>ContC P S ops l E (some d)) (fun p hp=>OpsC.rec (motive:=fun _=>ContC P S ops l E (some d)) (fun r hr=>⟨contF p r,contF_ok hb hp hr⟩) x) y
def contD(d:Tmp)(rest:∀ E,OpsC P S ops l E):ContC P S ops l E (some d):=
  match hb:Nat.blt d S.lim with
  | false=>⟨contX,contX_ok _⟩
  | true => match hx : Nat.testBit S.X d with
    | true=>contL' hb hx (rest (some d::killE d E))
    | false=>contF' hb (putC d) (rest (killE d E))
end
def contC(P:Program)(S:Sta)(ops:Array Oper)(l:List Oper)(E:En)(dst:Option Tmp)(rest:∀ E,OpsC P S ops l E):ContC P S ops l E dst:=
  match dst with
  | none=>contN' (rest E)
  | some d=>contD d rest
end
end Go.Ev
