/-
  chancerylaw16.awake: calls of it that are reckoned by themselves (states printed by a tool).
-/
import Derived.Test.YtecnddogdiikiaaGreatRbase
import Derived.Test.YtecnddogdiikiaaGreatRhint
namespace Go.Proofs.YtecnddogdiikiaaGreat
open Go Go.RowKit Go.Ev
noncomputable section

def x7 : AV := AV.int Go.IntKind.i64 (Int.ofNat 4)
def x14 : AV := AV.int Go.IntKind.i64 (Int.ofNat 0)
def x28 : T AV := T.leaf (AV.ptr 2 0)
def x31 : T AV := T.leaf (AV.int Go.IntKind.i64 (Int.negSucc 0))
def x34 : T AV := T.leaf x14
def x44 : T AV := T.leaf (AV.bool false)
def x47 : T AV := T.node x44 (T.leaf AV.top)
def x58 : K := K.node (K.node (K.node (K.node (K.node (K.node (K.node (K.leaf (AO.cells true 7 3 (T.node (T.node (T.node x28 x31) (T.node (T.leaf AV.snil) x34)) (T.node (T.node (T.leaf (AV.slice 1 0 50 50 0)) x31) x47)))) K.dead) K.dead) K.dead) K.dead) K.dead) K.dead) K.dead
def x60 : K := K.node (K.node x58 K.dead) K.dead
def x61 : K := K.node x60 K.dead
def x63 : K := K.node (K.node x61 K.dead) K.dead
def x66 : T AV := T.node (T.leaf AV.snil) (T.leaf AV.snil)
def x68 : T AV := T.node (T.leaf AV.snil) (T.leaf AV.top)
def x69 : T AV := T.node x66 x68
def x71 : T AV := T.node x69 x69
def x78 : T AV := T.node x66 (T.node (T.leaf (AV.slice 57 0 4096 4096 0)) (T.leaf AV.top))
def x80 : T AV := T.node (T.node x69 x78) x71
def x88 : T AV := T.node (T.node (T.node (T.node (T.leaf (AV.slice 129 0 4096 4096 0)) (T.leaf AV.snil)) x66) x69) x71
def x93 : T AV := T.node x66 (T.node (T.leaf (AV.slice 71 0 4096 4096 0)) (T.leaf AV.top))
def x96 : T AV := T.node x88 (T.node (T.node x69 x93) x71)
def x114 : K := K.node (K.node (K.node (K.node (K.node (K.node (K.leaf (AO.bytes true 4096 (Nat.lor (Nat.shiftLeft 0x1 32704) 0x100000001000000000000000100000018314e48430000000000000001))) K.dead) K.dead) K.dead) K.dead) K.dead) K.dead
def x131 : K := K.node K.dead (K.node (K.node (K.node (K.node (K.node (K.node (K.node (K.leaf (AO.bytes true 4096 (Nat.lor (Nat.shiftLeft 0x100000001 32704) 0x10000000100000001))) K.dead) K.dead) K.dead) K.dead) K.dead) K.dead) K.dead)
def x142 : K := K.node (K.node (K.node (K.leaf (AO.map [])) K.dead) K.dead) K.dead
def x149 : K := K.node (K.node K.dead (K.node (K.node (K.node K.dead (K.node (K.node x142 K.dead) K.dead)) K.dead) K.dead)) K.dead
def x153 : T AV := T.leaf (AV.ptr 292 0)
def x156 : T AV := T.node x34 (T.leaf AV.top)
def x159 : T AV := T.leaf (AV.ptr 297 0)
def x166 : T AV := T.leaf (AV.int Go.IntKind.i64 (Int.ofNat 24))
def x167 : T AV := T.node x166 (T.leaf AV.top)
def x171 : T AV := T.node (T.leaf (AV.ptr 293 0)) (T.leaf AV.top)
def x180 : T AV := T.node x28 (T.leaf AV.top)
def x182 : AV := AV.int Go.IntKind.i64 (Int.ofNat 2)
def x183 : T AV := T.leaf x182
def x184 : T AV := T.node x183 (T.leaf AV.top)
def x188 : T AV := T.leaf (AV.ptr 299 0)
def x194 : T AV := T.leaf (AV.ptr 295 0)
def x195 : T AV := T.node x194 (T.leaf AV.top)
def x197 : T AV := T.node x68 x156
def x210 : K := K.node (K.node (K.node K.dead (K.node (K.node (K.node (K.node (K.node (K.leaf (AO.cells true 17 5 (T.node (T.node (T.node (T.node (T.node x153 x44) x68) (T.node x156 (T.node x159 (T.leaf AV.top)))) (T.node (T.node x167 x171) (T.node x156 (T.node (T.leaf (AV.map 291)) (T.leaf AV.top))))) (T.node (T.node (T.node x180 x184) (T.node x156 (T.node x188 (T.leaf AV.top)))) (T.node (T.node x184 x195) x197))))) K.dead) K.dead) K.dead) K.dead) K.dead)) K.dead) K.dead
def x212 : K := K.node (K.node K.dead x210) K.dead
def x213 : K := K.node x212 K.dead
def x216 : K := K.node x149 K.dead
def x224 : T AV := T.node (T.node (T.node (T.leaf (AV.slice 285 0 4096 4096 0)) (T.leaf AV.snil)) x66) x69
def x225 : T AV := T.node x224 x71
def x258 : K := K.node K.dead (K.node (K.node (K.node K.dead (K.node (K.node (K.node (K.node (K.node (K.leaf (AO.cells true 5 3 (T.node (T.node (T.node x159 x44) x171) (T.node x195 (T.node (T.leaf (AV.map 296)) (T.leaf AV.top)))))) K.dead) K.dead) K.dead) K.dead) K.dead)) K.dead) K.dead)
def x259 : K := K.node x258 K.dead
def x260 : K := K.node (K.node (K.node (K.node (K.node (K.node (K.node (K.node (K.node (K.node (K.node (K.leaf (AO.cells true 50 6 (T.node (T.node x225 x80) x96))) K.dead) K.dead) K.dead) K.dead) K.dead) K.dead) x114) K.dead) K.dead) K.dead) x259
def x262 : T AV := T.node x28 (T.leaf AV.snil)
def x263 : T AV := T.node x262 x171
def x264 : T AV := T.node x166 x34
def x266 : AV := AV.int Go.IntKind.i64 (Int.ofNat 1)
def x267 : T AV := T.leaf x266
def x268 : T AV := T.node x267 (T.leaf AV.top)
def x269 : T AV := T.node x264 x268
def x271 : T AV := T.node x183 x34
def x273 : T AV := T.node x183 x44
def x274 : T AV := T.node x273 x156
def x300 : K := K.node (K.node (K.node (K.node K.dead (K.node (K.node (K.node (K.node (K.node (K.leaf (AO.bytes true 4096 (Nat.lor (Nat.shiftLeft 0x2 32704) 0x100000001000000000000000200000018314e48430000000000000002))) K.dead) K.dead) K.dead) K.dead) K.dead)) K.dead) K.dead) K.dead
def x301 : K := K.node K.dead x300
def x303 : K := K.node x260 (K.node (K.node (K.node K.dead (K.node (K.node (K.node K.dead (K.node (K.node (K.node (K.node (K.node (K.leaf (AO.cells true 12 4 (T.node (T.node x263 x269) (T.node (T.node x271 x156) x274)))) K.dead) K.dead) K.dead) K.dead) K.dead)) K.dead) K.dead)) K.dead) x301)
def x307 : T AV := T.node x188 (T.leaf (AV.map 298))
def x308 : T AV := T.node x267 (T.leaf AV.snil)
def x327 : T AV := T.node (T.leaf x7) (T.leaf AV.top)
def x333 : T AV := T.node (T.leaf (AV.int Go.IntKind.i64 (Int.ofNat 26))) x34
def x340 : T AV := T.node x333 (T.node (T.leaf (AV.func (Go.Fn.func 127) [(AV.ptr 292 0)] [])) (T.leaf AV.top))
def x348 : T AV := T.node (T.node (T.node x28 (T.leaf (AV.map 294))) x184) (T.node x264 x47)
def x361 : K := K.node (K.node x131 (K.node (K.node (K.node K.dead (K.node (K.node (K.node (K.node (K.node (K.leaf (AO.cells true 12 4 (T.node (T.node (T.node (T.node x194 (T.leaf AV.snil)) x327) x340) x348))) K.dead) K.dead) K.dead) K.dead) K.dead)) K.dead) K.dead)) K.dead
def xm0 : Mo := ⟨7, [(AV.ptr 2 0), x7], 14, (K.node (K.node K.dead x63) (K.node (K.node (K.node (K.node (K.node (K.node (K.node (K.node (K.node (K.node (K.node (K.node (K.node (K.leaf (AO.cells true 50 6 (T.node (T.node (T.node (T.node (T.node x66 x66) x69) x71) x80) x96))) K.dead) K.dead) K.dead) K.dead) K.dead) K.dead) x114) K.dead) K.dead) K.dead) K.dead) K.dead) (K.node K.dead (K.node (K.node (K.node x131 K.dead) K.dead) K.dead)))), 132, (AV.tup [(AV.ptr 292 0), (AV.agg [x14, x14, x14, AV.snil]), x14]), (K.node (K.node (K.node (K.node K.dead x149) x213) (K.node (K.node x61 x149) x216)) (K.node x303 (K.node (K.node x149 (K.node (K.node K.dead (K.node (K.node (K.node K.dead (K.node (K.node (K.node (K.node (K.node (K.leaf (AO.cells true 7 3 (T.node (T.node x307 x308) (T.node x308 x156)))) K.dead) K.dead) K.dead) K.dead) K.dead)) K.dead) K.dead)) K.dead)) (K.node x361 K.dead)))), 300⟩
def x390 : AV := AV.int Go.IntKind.u8 (Int.ofNat 2)
def x403 : K := K.node (K.node K.dead (K.node (K.node (K.node (K.node (K.node (K.leaf (AO.map [(x266, (AV.agg [x390, x14]))])) K.dead) K.dead) K.dead) K.dead) K.dead)) K.dead
def x417 : K := K.node (K.node (K.node K.dead (K.node (K.node (K.node (K.node (K.node (K.leaf (AO.cells true 1 0 x267)) K.dead) K.dead) K.dead) K.dead) K.dead)) K.dead) K.dead
def x428 : T AV := T.node x267 (T.leaf (AV.slice 302 0 1 1 1))
def x442 : K := K.node (K.node K.dead (K.node (K.node (K.node K.dead (K.node (K.node (K.node (K.node (K.node (K.leaf (AO.cells true 7 3 (T.node (T.node x307 (T.node x183 (T.leaf AV.snil))) (T.node x428 x156)))) K.dead) K.dead) K.dead) K.dead) K.dead)) K.dead) K.dead)) K.dead
def x470 : K := K.node (K.node (K.node (K.node (K.node (K.leaf (AO.map [(x266, (AV.agg []))])) K.dead) K.dead) K.dead) K.dead) K.dead
def x506 : K := K.node (K.node K.dead (K.node (K.node (K.node K.dead (K.node (K.node (K.node (K.node (K.node (K.leaf (AO.map [(x266, x14)])) K.dead) K.dead) K.dead) K.dead) K.dead)) K.dead) K.dead)) K.dead
def x508 : T AV := T.leaf (AV.bool true)
def x528 : K := K.node K.dead (K.node (K.node K.dead (K.node (K.node (K.node (K.node (K.node (K.leaf (AO.cells true 5 3 (T.node (T.node (T.node x267 x508) x268) (T.node (T.node (T.leaf (AV.slice 493 0 4080 4080 1)) (T.leaf AV.top)) (T.node x508 (T.leaf AV.top)))))) K.dead) K.dead) K.dead) K.dead) K.dead)) K.dead)
def x562 : K := K.node (K.node (K.node (K.node (K.leaf (AO.bytes true 4080 0x7801feffffffffffffff0000610002000b000a0000000000010001)) K.dead) K.dead) K.dead) K.dead
def x568 : K := K.node (K.node K.dead (K.node K.dead (K.node K.dead (K.node K.dead (K.node x562 K.dead))))) x300
def x604 : K := K.node (K.node (K.node K.dead (K.node (K.node (K.node (K.node (K.node (K.leaf (AO.cells true 12 4 (T.node (T.node (T.node (T.node x194 (T.leaf (AV.slice 334 0 1 1 5))) x327) x340) x348))) K.dead) K.dead) K.dead) K.dead) K.dead)) K.dead) K.dead
def x607 : K := K.node (K.node (K.node K.dead x604) K.dead) K.dead
def xm1 : Mo := ⟨43, [(AV.ptr 292 0), x266, (AV.slice 303 0 1 1 0), (AV.slice 304 0 1 1 0)], 14, (K.node (K.node (K.node (K.node (K.node K.dead (K.node K.dead (K.node (K.node (K.node K.dead (K.node (K.node (K.node (K.node (K.node (K.leaf (AO.bytes true 1 120)) K.dead) K.dead) K.dead) K.dead) K.dead)) K.dead) K.dead))) x149) x213) (K.node (K.node x61 (K.node (K.node K.dead (K.node x403 K.dead)) K.dead)) (K.node x149 (K.node (K.node K.dead x417) K.dead)))) (K.node x303 (K.node (K.node x149 x442) (K.node x361 (K.node (K.node K.dead (K.node (K.node (K.node K.dead (K.node (K.node (K.node (K.node (K.node (K.leaf (AO.bytes true 1 97)) K.dead) K.dead) K.dead) K.dead) K.dead)) K.dead) K.dead)) K.dead))))), 305, x14, (K.node (K.node (K.node (K.node K.dead (K.node (K.node K.dead (K.node (K.node (K.node K.dead x470) K.dead) K.dead)) K.dead)) x213) (K.node (K.node x61 (K.node (K.node K.dead (K.node x403 (K.node K.dead (K.node K.dead (K.node (K.node (K.node (K.node (K.node (K.leaf (AO.bytes true 4100 0x7801feffffffffffffff0000610002000b000a00000000000100010100000001000100000000000000010100001000)) K.dead) K.dead) K.dead) K.dead) K.dead))))) K.dead)) (K.node x506 (K.node (K.node x528 x417) K.dead)))) (K.node (K.node x260 (K.node (K.node (K.node K.dead (K.node (K.node (K.node K.dead (K.node (K.node (K.node (K.node (K.node (K.leaf (AO.cells true 12 4 (T.node (T.node (T.node (T.node x28 (T.leaf (AV.slice 490 0 4100 4100 1))) x171) x269) (T.node (T.node (T.node x183 x267) x156) x274)))) K.dead) K.dead) K.dead) K.dead) K.dead)) K.dead) K.dead)) K.dead) x568)) (K.node (K.node (K.node (K.node K.dead (K.node (K.node (K.node K.dead (K.node (K.node (K.node (K.node (K.node (K.leaf (AO.map [(x266, (AV.slice 498 0 1 1 1))])) K.dead) K.dead) K.dead) K.dead) K.dead)) K.dead) K.dead)) K.dead) x442) x607))), 499⟩
def x626 : K := K.node K.dead (K.node (K.node (K.node (K.node (K.leaf (AO.bytes true 4096 (Nat.lor (Nat.shiftLeft 0x200000001 32704) 0x7801feffffffffffffff0000610002000b000a00000000000100010100000001000100000000000000010100001000000010130000000200000001))) K.dead) K.dead) K.dead) K.dead)
def x645 : K := K.node K.dead (K.node K.dead (K.node (K.node (K.node (K.node K.dead (K.node (K.node (K.node (K.node (K.leaf (AO.bytes true 4096 (Nat.lor (Nat.shiftLeft 0x200000002 32704) (Nat.lor (Nat.shiftLeft 0x1020000000b 288) 0x270000000200000002)))) K.dead) K.dead) K.dead) K.dead)) K.dead) K.dead) K.dead))
def x646 : K := K.node x212 x645
def x687 : K := K.node x506 (K.node (K.node x528 K.dead) K.dead)
def x696 : T AV := T.node (T.node (T.node (T.node (T.leaf (AV.slice 552 0 4096 4096 0)) (T.leaf AV.snil)) x68) x78) x71
def x702 : T AV := T.node (T.node (T.leaf (AV.slice 572 0 4096 4096 0)) (T.leaf AV.snil)) x68
def x705 : T AV := T.node x88 (T.node (T.node x702 x93) x71)
def x715 : K := K.node (K.node (K.node (K.node (K.node (K.node (K.node (K.leaf (AO.cells true 50 6 (T.node (T.node x225 x696) x705))) K.dead) K.dead) K.dead) K.dead) K.dead) K.dead) x114
def x731 : AV := AV.int Go.IntKind.i64 (Int.ofNat 3)
def x732 : T AV := T.leaf x731
def x733 : T AV := T.node x732 (T.leaf AV.top)
def x734 : T AV := T.node (T.node x166 x183) x733
def x738 : T AV := T.node x273 x184
def x750 : K := K.node (K.node (K.node K.dead (K.node (K.node (K.node (K.node (K.node (K.leaf (AO.cells true 12 4 (T.node (T.node x263 x734) (T.node (T.node (T.node x183 x183) x184) x738)))) K.dead) K.dead) K.dead) K.dead) K.dead)) K.dead) K.dead
def x755 : T AV := T.node x732 (T.leaf AV.snil)
def x777 : K := K.node (K.node (K.node x626 K.dead) K.dead) K.dead
def x780 : K := K.node K.dead (K.node (K.node K.dead x777) K.dead)
def x784 : K := K.node (K.node x715 K.dead) K.dead
def x785 : K := K.node x784 K.dead
def xm2 : Mo := ⟨43, [(AV.ptr 292 0), x182, (AV.slice 577 0 1 1 0), (AV.slice 578 0 1 1 0)], 14, (K.node (K.node (K.node (K.node K.dead (K.node (K.node K.dead (K.node (K.node (K.node x626 x470) K.dead) K.dead)) K.dead)) x646) (K.node (K.node (K.node (K.node (K.node x58 (K.node (K.node (K.node K.dead (K.node (K.node (K.node (K.node (K.leaf (AO.bytes true 1 121)) K.dead) K.dead) K.dead) K.dead)) K.dead) K.dead)) K.dead) K.dead) (K.node (K.node K.dead (K.node (K.node (K.node K.dead (K.node (K.node (K.node (K.node (K.node (K.leaf (AO.map [(x266, (AV.agg [(AV.int Go.IntKind.u8 (Int.ofNat 3)), x266])), (x182, (AV.agg [x390, x266]))])) K.dead) K.dead) K.dead) K.dead) K.dead)) K.dead) K.dead)) K.dead)) x687)) (K.node (K.node (K.node (K.node (K.node (K.node x715 (K.node (K.node (K.node K.dead (K.node (K.node (K.node (K.node (K.leaf (AO.bytes true 1 98)) K.dead) K.dead) K.dead) K.dead)) K.dead) K.dead)) K.dead) K.dead) x259) (K.node (K.node (K.node K.dead x750) K.dead) x568)) (K.node (K.node x149 (K.node (K.node K.dead (K.node (K.node (K.node K.dead (K.node (K.node (K.node (K.node (K.node (K.leaf (AO.cells true 7 3 (T.node (T.node x307 x755) (T.node x428 x268)))) K.dead) K.dead) K.dead) K.dead) K.dead)) K.dead) K.dead)) K.dead)) x607))), 579, x14, (K.node (K.node (K.node x780 x646) x63) (K.node (K.node (K.node x785 x259) (K.node (K.node (K.node (K.node K.dead (K.node (K.node K.dead (K.node K.dead (K.node (K.node (K.node (K.node (K.leaf (AO.bytes true 70 0x7901fdffffffffffffff0000620002000b7801feffffffffffffff0000610002000b001d000c000000000002002c000200010000000001000100000000000000020100000042)) K.dead) K.dead) K.dead) K.dead))) K.dead)) (K.node (K.node (K.node K.dead (K.node (K.node (K.node (K.node (K.node (K.leaf (AO.cells true 12 4 (T.node (T.node (T.node (T.node x28 (T.leaf (AV.slice 837 0 70 70 1))) x171) x734) (T.node (T.node (T.node x183 x732) x184) x738)))) K.dead) K.dead) K.dead) K.dead) K.dead)) K.dead) K.dead)) K.dead) x301)) K.dead)), 846⟩
def x828 : AV := AV.slice 768 0 4080 4080 1
def x852 : K := K.node (K.node (K.node (K.leaf (AO.cells true 1 0 x183)) K.dead) K.dead) K.dead
def x860 : K := K.node (K.node (K.node (K.node (K.node (K.node K.dead (K.node K.dead (K.node (K.node (K.node (K.node (K.leaf (AO.bytes true 4080 0x7901fdffffffffffffff0000620002000b7801feffffffffffffff0000610002000b001d000c0000000000020001)) K.dead) K.dead) K.dead) K.dead))) K.dead) K.dead) K.dead) K.dead) (K.node (K.node (K.node (K.node K.dead (K.node (K.node K.dead (K.node x852 K.dead)) K.dead)) K.dead) x777) K.dead)
def x883 : T AV := T.leaf (AV.int Go.IntKind.u32 (Int.ofNat 0))
def x899 : K := K.node K.dead (K.node (K.node (K.node K.dead (K.node (K.node K.dead (K.node (K.node (K.node (K.node (K.leaf (AO.cells true 7 3 (T.node (T.node (T.node (T.leaf (AV.ptr 666 0)) (T.leaf (AV.int Go.IntKind.i32 (Int.ofNat 0)))) (T.node (T.leaf (AV.map 665)) x44)) (T.node (T.node x159 x883) (T.node x883 (T.leaf AV.top)))))) K.dead) K.dead) K.dead) K.dead)) K.dead)) K.dead) K.dead)
def x916 : K := K.node x258 (K.node (K.node (K.node K.dead (K.node (K.node K.dead (K.node (K.node (K.node (K.node (K.leaf (AO.map [(x266, x828)])) K.dead) K.dead) K.dead) K.dead)) K.dead)) K.dead) K.dead)
def x931 : K := K.node (K.node (K.node (K.node (K.node (K.node K.dead (K.node K.dead (K.node (K.node (K.node (K.node (K.leaf (AO.cells true 3 2 (T.node x308 x68))) K.dead) K.dead) K.dead) K.dead))) K.dead) K.dead) x750) K.dead) x301
def x946 : K := K.node x216 (K.node (K.node (K.node (K.node (K.node K.dead (K.node (K.node K.dead (K.node (K.node (K.node (K.node (K.leaf (AO.cells true 1 0 x153)) K.dead) K.dead) K.dead) K.dead)) K.dead)) K.dead) x604) K.dead) K.dead)
def xm3 : Mo := ⟨287, [(AV.slice 772 0 4080 4080 1), x828], 14, (K.node (K.node (K.node x860 (K.node (K.node (K.node (K.node (K.node (K.node K.dead (K.node K.dead x562)) K.dead) K.dead) x210) K.dead) x645)) (K.node (K.node x61 x899) x687)) (K.node (K.node (K.node x785 x916) x931) x946)), 775, (AV.tup [(AV.slice 786 0 1 1 2), x14]), (K.node (K.node (K.node x860 x646) (K.node (K.node (K.node x60 (K.node (K.node (K.node (K.node K.dead (K.node K.dead (K.node (K.node (K.node (K.node (K.leaf (AO.cells true 2 1 (T.node x183 (T.leaf (AV.slice 785 0 44 44 1))))) K.dead) K.dead) K.dead) K.dead))) K.dead) K.dead) K.dead)) x899) x687)) (K.node (K.node (K.node (K.node x784 (K.node (K.node (K.node (K.node K.dead (K.node K.dead (K.node (K.node (K.node (K.node (K.leaf (AO.bytes true 44 0x7901fdffffffffffffff0000620002000b7801feffffffffffffff0000610002000b001d000c000000000002)) K.dead) K.dead) K.dead) K.dead))) K.dead) K.dead) K.dead)) x916) x931) x946)), 787⟩
def x1009 : T AV := T.node (T.node x224 (T.node (T.node (T.node (T.leaf (AV.slice 867 0 4096 4096 0)) (T.leaf AV.snil)) x68) x69)) x696
def x1045 : T AV := T.leaf (AV.ptr 1208 0)
def x1050 : T AV := T.node (T.leaf (AV.ptr 1204 0)) (T.leaf AV.top)
def x1054 : T AV := T.leaf (AV.ptr 1206 0)
def x1055 : T AV := T.node x1054 (T.leaf AV.top)
def x1111 : T AV := T.leaf (AV.ptr 1210 0)
def x1174 : K := K.node (K.node (K.node K.dead (K.node K.dead (K.node K.dead (K.node (K.node K.dead (K.node (K.node (K.node K.dead (K.node (K.node (K.node (K.leaf (AO.cells true 5 3 (T.node (T.node (T.node x1045 x44) x1050) (T.node x1055 (T.node (T.leaf (AV.map 1207)) (T.leaf AV.top)))))) K.dead) K.dead) K.dead)) K.dead) K.dead)) K.dead)))) (K.node (K.node K.dead (K.node K.dead (K.node (K.node K.dead (K.node (K.node (K.node K.dead (K.node (K.node (K.node (K.leaf (AO.cells true 12 4 (T.node (T.node (T.node x262 x1050) x269) (T.node (T.node x271 x733) (T.node (T.node x732 x44) x156))))) K.dead) K.dead) K.dead)) K.dead) K.dead)) K.dead))) (K.node K.dead (K.node (K.node K.dead (K.node (K.node (K.node (K.node K.dead (K.node (K.node (K.node (K.leaf (AO.bytes true 4096 (Nat.lor (Nat.shiftLeft 0x3 32736) 0x7901fdffffffffffffff0000620002000b7801feffffffffffffff0000610002000b001d000c00000000000200010000000300000000))) K.dead) K.dead) K.dead)) K.dead) K.dead) K.dead)) K.dead)))) (K.node (K.node x61 (K.node K.dead (K.node K.dead (K.node (K.node K.dead (K.node (K.node (K.node K.dead (K.node (K.node (K.node (K.leaf (AO.cells true 7 3 (T.node (T.node (T.node x1111 (T.leaf (AV.map 1209))) (T.node x732 (T.leaf (AV.slice 1212 0 1 1 1)))) (T.node x755 x156)))) K.dead) K.dead) K.dead)) K.dead) K.dead)) K.dead)))) (K.node (K.node K.dead (K.node K.dead (K.node (K.node K.dead (K.node (K.node (K.node K.dead (K.node (K.node (K.node (K.leaf (AO.cells true 12 4 (T.node (T.node (T.node (T.node x1054 (T.leaf AV.snil)) x327) (T.node x333 (T.node (T.leaf (AV.func (Go.Fn.func 127) [(AV.ptr 1203 0)] [])) (T.leaf AV.top)))) (T.node (T.node (T.node x28 (T.leaf (AV.map 1205))) x733) (T.node (T.node x166 x267) x47))))) K.dead) K.dead) K.dead)) K.dead) K.dead)) K.dead))) (K.node K.dead (K.node K.dead (K.node (K.node K.dead (K.node (K.node (K.node K.dead x852) K.dead) K.dead)) K.dead)))))
def xm4 : Mo := ⟨7, [(AV.ptr 2 0), x7], 14, (K.node (K.node (K.node x780 (K.node K.dead x645)) x63) (K.node (K.node (K.node (K.node (K.node (K.node (K.node (K.node (K.node (K.node (K.node (K.node (K.node (K.leaf (AO.cells true 50 6 (T.node x1009 x705))) K.dead) K.dead) K.dead) K.dead) K.dead) K.dead) x114) K.dead) K.dead) K.dead) K.dead) (K.node K.dead x301)) (K.node (K.node (K.node (K.node K.dead (K.node K.dead (K.node (K.node K.dead (K.node K.dead (K.node (K.node (K.node (K.node (K.leaf (AO.bytes true 4096 (Nat.lor (Nat.shiftLeft 0x200000003 32704) 0x7901fdffffffffffffff0000620002000b7801feffffffffffffff0000610002000b001d000c000000000002002c000200010000000001000100000000000000020100000042000000460000000200000003))) K.dead) K.dead) K.dead) K.dead))) K.dead))) K.dead) K.dead) K.dead))), 871, (AV.tup [(AV.ptr 1203 0), (AV.agg [x731, x266, x266, (AV.slice 1214 0 1 1 1)]), x14]), (K.node x1174 (K.node (K.node (K.node (K.node (K.node (K.node (K.node (K.node (K.node (K.node (K.node (K.node (K.node (K.leaf (AO.cells true 50 6 (T.node x1009 (T.node (T.node (T.node (T.node (T.node (T.leaf (AV.slice 1196 0 4096 4096 0)) (T.leaf AV.snil)) x66) x69) x71) (T.node (T.node x702 (T.node x66 (T.node (T.leaf (AV.slice 1116 0 4096 4096 0)) (T.leaf AV.top)))) x71))))) K.dead) K.dead) K.dead) K.dead) K.dead) K.dead) K.dead) K.dead) K.dead) K.dead) (K.node K.dead (K.node K.dead (K.node (K.node K.dead (K.node (K.node (K.node K.dead (K.node (K.node (K.node (K.leaf (AO.map [(x182, (AV.agg [(AV.int Go.IntKind.u8 (Int.ofNat 4)), x14]))])) K.dead) K.dead) K.dead)) K.dead) K.dead)) K.dead)))) (K.node (K.node K.dead (K.node K.dead (K.node (K.node K.dead (K.node (K.node (K.node K.dead x142) K.dead) K.dead)) K.dead))) K.dead)) (K.node (K.node (K.node K.dead (K.node K.dead (K.node (K.node K.dead (K.node (K.node (K.node K.dead (K.node (K.node (K.node (K.leaf (AO.cells true 17 5 (T.node (T.node (T.node (T.node (T.node (T.leaf (AV.ptr 1203 0)) x44) x68) (T.node x156 (T.node x1045 (T.leaf AV.top)))) (T.node (T.node x167 x1050) (T.node x156 (T.node (T.leaf (AV.map 1202)) (T.leaf AV.top))))) (T.node (T.node (T.node x180 x733) (T.node x156 (T.node x1111 (T.leaf AV.top)))) (T.node (T.node x733 x1055) x197))))) K.dead) K.dead) K.dead)) K.dead) K.dead)) K.dead))) K.dead) K.dead))), 1215⟩

set_option maxRecDepth 100000 in
theorem xm0_run : moB (callQ Tryz.prog mixed 1 ext0 hint 200) xm0 = true := by kernel_rfl
theorem xm0_ok : MoOk Tryz.prog 1 xm0 := moOk_of (callQ_ok ext0_ok hint 200) xm0_run
set_option maxRecDepth 100000 in
theorem xm1_run : moB (callQ Tryz.prog mixed 1 ext0 hint 200) xm1 = true := by kernel_rfl
theorem xm1_ok : MoOk Tryz.prog 1 xm1 := moOk_of (callQ_ok ext0_ok hint 200) xm1_run
set_option maxRecDepth 100000 in
theorem xm3_run : moB (callQ Tryz.prog mixed 1 ext0 hint 200) xm3 = true := by kernel_rfl
theorem xm3_ok : MoOk Tryz.prog 1 xm3 := moOk_of (callQ_ok ext0_ok hint 200) xm3_run
set_option maxRecDepth 100000 in
theorem xm2_run : moB (callQ Tryz.prog mixed 1 (orE ext0 (moE 248661618204893321077691124073410420050228075398673858720231988446579748506266687766528 [xm3])) hint 200) xm2 = true := by kernel_rfl
theorem xm2_ok : MoOk Tryz.prog 1 xm2 := by
  have h3 := xm3_ok
  exact moOk_of (callQ_ok (orE_ok ext0_ok (moE_ok (mask := 248661618204893321077691124073410420050228075398673858720231988446579748506266687766528) (l := [xm3]) (by intro m hm; simp only [List.mem_cons, List.not_mem_nil, or_false] at hm; rcases hm with rfl <;> assumption))) hint 200) xm2_run
set_option maxRecDepth 100000 in
theorem xm4_run : moB (callQ Tryz.prog mixed 1 ext0 hint 200) xm4 = true := by kernel_rfl
theorem xm4_ok : MoOk Tryz.prog 1 xm4 := moOk_of (callQ_ok ext0_ok hint 200) xm4_run

end
end Go.Proofs.YtecnddogdiikiaaGreat
