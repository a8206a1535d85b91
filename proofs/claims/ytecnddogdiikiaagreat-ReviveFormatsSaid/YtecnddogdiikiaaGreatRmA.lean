/-
  The revive seat: hints for the quicker evaluator (untrusted): which temporaries live in one region alone, which functions run in the elder way.
  chancerylaw16.awake: calls of it that are reckoned by themselves (states printed by a tool).
-/
import Derived.Test.YtecnddogdiikiaaGreatQf
import Derived.Test.YtecnddogdiikiaaGreatRbase
set_option linter.unusedVariables false
set_option linter.unusedSimpArgs false
namespace Go.Proofs.YtecnddogdiikiaaGreat
open Go Go.Ev
def hintL : List (Nat × Nat) := [
  (2, 1), (3, 133499189745056880149688849733850660372105245212534935844664648037779760690903477393671247103196), (4, 39614081219657714065917083648), (5, 7664), (6, 4314444590420426752), 
  (7, 45666350809817510998322084324575711952783806464), (8, 19035858749762341112340576), (10, 6151680), (11, 32096), (12, 64430927552), (13, 374144419156711147060143317175368453031914377314432), (14, 63392), (15, 2008), 
  (16, 112), (17, 8727371382272), (18, 536345984), (19, 16645888), (20, 2356571555107090462912), (21, 2147481344), (22, 16368), (23, 67556176253939712), (24, 1162160639233786642432), (25, 2351941853831163822080), 
  (26, 496), (27, 8), (28, 16513024), (29, 8160), (30, 580284391104604961849147392), (31, 503283200), (32, 1915001749504), (33, 232), (34, 19807040611272195858585545728), (35, 261984), (36, 8), (37, 496), (38, 263979232), 
  (39, 8184), (40, 496), (41, 4294965760), (42, 130784), (43, 8791788548096), (44, 8936826148452480), (45, 16240), (46, 617763454430973311187680000), (47, 2197945040896), (48, 113600), (49, 268169088), (50, 2094976), 
  (51, 2008), (52, 289537733725646091154612224), (53, 1267650600071432111779666179584), (54, 35676953299877888), (55, 34909493651456), (56, 992), (57, 8188), (58, 4289726208), (59, 985161881868288), 
  (61, 10060073925466466590182048069058560), (62, 105690554971648), (63, 24), (64, 2040), (65, 8016), (66, 142605056), (67, 68215103488), (68, 4080), (69, 4397509111552), (70, 2305807854839324352), 
  (71, 9443651574062636838912), (72, 624412698833974333213295875708159727163768832), (73, 8761221574144), (74, 34326166976), (75, 1152921625670975264), (76, 261120), (77, 480), (78, 480), (79, 2040), (80, 261872), 
  (81, 16240), (83, 88), (84, 35167208734560), (85, 130496), (86, 2040), (87, 6184957370368), (88, 52758866493440), (89, 68215103488), (90, 8602320896), (91, 134216640), (92, 984), (93, 77371251302449921176698304), 
  (94, 130816), (95, 520142848), (96, 2190424921856), (97, 2113924416), (98, 1057810092162800526656128), (99, 59861106608), (100, 1073745376), (101, 67091968), (102, 8387968), (103, 8160), (104, 8795958278144), 
  (105, 17177755392), (106, 9671258982894074977058176), (107, 1984), (108, 232), (109, 32752), (110, 130816), (111, 32752), (112, 1066401408), (113, 130816), (114, 480), (115, 128), (116, 268172032), (117, 120), 
  (119, 21778061098346035111418113921327262334976), (120, 248), (121, 224), (122, 134152096), (123, 457792), (124, 1099835980430045867469638205312), (125, 541165715456), (126, 604462333310828153667584), (127, 267907008), 
  (128, 2146434624), (129, 147573952314294139904), (130, 2008), (131, 15872), (132, 16096), (133, 480), (134, 67645470720), (135, 1072758464), (136, 647762029529727326751976700476928), (137, 245616), (138, 130992), 
  (139, 262112), (140, 224), (141, 2146565632), (142, 120), (143, 8184), (144, 33554424), (145, 8184), (146, 984), (147, 992), (148, 480), (149, 33545728), (150, 534773696), (151, 992), (152, 134152096), 
  (153, 73786941110464011264), (154, 3936), (155, 2093056), (156, 8184), (157, 472), (158, 9407803444400983113728), (159, 24), (160, 24), (161, 240), (162, 16776064), (163, 245744), (164, 16352), (165, 8795522595840), 
  (166, 281473902961152), (167, 262112), (168, 34016141213632), (169, 72460632384), (170, 37760476111684734156288), (171, 34622426547925350535900692448), (172, 274870041600), (174, 4222124633881600), (175, 6442512128), 
  (176, 69805801739909120), (177, 131932805363712), (178, 123286018324422656), (179, 4026539776), (180, 70631906881722317310343994521600), (181, 131040), (182, 18738367497902098372100096), 
  (183, 187082913956467841398811267177040735202862828617728), (184, 524008), (185, 33537768), (186, 14675968), (187, 984), (188, 48), (189, 984), (190, 2250629535752192), (191, 134217600), (192, 70835492738345463701504), 
  (193, 457792), (194, 65456), (195, 16528287193634762121216), (196, 230900109179911285543532544), (197, 575264483718463744), (198, 8556364480), (199, 2008), (200, 8184), (201, 224), (203, 2040), (204, 2040), 
  (206, 939458432), (207, 4194176), (208, 4194296), (209, 39606829509995329844303353856), (210, 24), (211, 112), (212, 2147336704), (213, 3520), (214, 206397505280), (215, 137437891576), (216, 37778931863369478634496), 
  (217, 120), (218, 7516192768), (219, 32640), (220, 68719474688), (221, 56), (222, 8184), (223, 76048823007779359670050648244224), (224, 70368473634816), (225, 62914432), (226, 39613779320789211888404593664), 
  (227, 75253493293226129350144), (228, 8456699648), (229, 154742504874626140860282880), (230, 984), (231, 4869008759247460867622849792638976), (232, 120), (233, 1205384067270543788734464), (235, 65216), (236, 56), 
  (237, 523232), (238, 16773056), (239, 16773056), (240, 6756377584205312), (241, 3229747248128), (242, 267911168), (243, 16344), (244, 2106866007799808), (245, 33026176), (246, 16776896), (248, 1008), (249, 522304), 
  (250, 6579889631232), (251, 23372563608775016477365127793582665958387128729600), (252, 2063872), (253, 17313008974592), (254, 1180590423950546165248), (255, 34091294592), (256, 1044336), (257, 301050286813382895740928), 
  (258, 124), (259, 1971424314908672), (260, 4056), (263, 2198989701120), (264, 16773056), (265, 34292105216), (266, 992), (267, 273804164096), (268, 8184), (269, 137430560256), (270, 1879031552), (271, 16368), 
  (272, 2040), (273, 64545299312689012736), (274, 140737219917824), (275, 992), (276, 138534169853952), (277, 130024192), (278, 1064419072), (279, 70368609950976), (280, 71986675504248832), (281, 1593696128), (284, 4056), 
  (285, 4532287773239996380336128), (286, 992), (288, 3824), (289, 14), (290, 130912), (291, 84987514981416837524327799219806011392), (292, 8), (293, 60), (294, 274743425024), (295, 14855337139822342341368940704), 
  (296, 15856), (297, 68215103488), (298, 16), (299, 32), (300, 248), (302, 8016), (303, 134152096), (304, 33554976), (306, 60), (307, 60), (309, 8124), (310, 2031608), (317, 696887611929481383112642913468285153442816), 
  (320, 8795017178848)]
noncomputable def hint : Hint := ⟨lookN hintL, 4074320614294587759569157304449938275563543041509880454481909125741963432877637884421603840, fun _ => 0⟩
end Go.Proofs.YtecnddogdiikiaaGreat

namespace Go.Proofs.YtecnddogdiikiaaGreat
open Go Go.RowKit Go.Ev
noncomputable section

def x7 : AV := AV.int Go.IntKind.i64 (Int.ofNat 4)
def x14 : AV := AV.int Go.IntKind.i64 (Int.ofNat 0)
def x28 : T AV := T.leaf (AV.ptr 2 0)
def x31 : T AV := T.leaf (AV.int Go.IntKind.i64 (Int.negSucc 0))
def x34 : T AV := T.leaf x14
def x44 : T AV := T.leaf (AV.bool false)
def x47 : T AV := T.node x44 (T.leaf AV.top)
def x58 : K := K.node (K.node (K.node (K.node (K.node (K.node (K.node (K.leaf (AO.cells true 7 3 (T.node (T.node (T.node x28 x31) (T.node (T.leaf AV.snil) x34)) (T.node (T.node (T.leaf (AV.slice 1 0 50 50 0)) x31) x47)))) K.dead) K.dead) K.dead) K.dead) K.dead) K.dead) K.dead
def x60 : K := K.node (K.node x58 K.dead) K.dead
def x61 : K := K.node x60 K.dead
def x63 : K := K.node (K.node x61 K.dead) K.dead
def x66 : T AV := T.node (T.leaf AV.snil) (T.leaf AV.snil)
def x68 : T AV := T.node (T.leaf AV.snil) (T.leaf AV.top)
def x69 : T AV := T.node x66 x68
def x71 : T AV := T.node x69 x69
def x78 : T AV := T.node x66 (T.node (T.leaf (AV.slice 57 0 4096 4096 0)) (T.leaf AV.top))
def x80 : T AV := T.node (T.node x69 x78) x71
def x88 : T AV := T.node (T.node (T.node (T.node (T.leaf (AV.slice 129 0 4096 4096 0)) (T.leaf AV.snil)) x66) x69) x71
def x93 : T AV := T.node x66 (T.node (T.leaf (AV.slice 71 0 4096 4096 0)) (T.leaf AV.top))
def x96 : T AV := T.node x88 (T.node (T.node x69 x93) x71)
def x114 : K := K.node (K.node (K.node (K.node (K.node (K.node (K.leaf (AO.bytes true 4096 (Nat.lor (Nat.shiftLeft 0x1 32704) 0x100000001000000000000000100000018314e48430000000000000001))) K.dead) K.dead) K.dead) K.dead) K.dead) K.dead
def x131 : K := K.node K.dead (K.node (K.node (K.node (K.node (K.node (K.node (K.node (K.leaf (AO.bytes true 4096 (Nat.lor (Nat.shiftLeft 0x100000001 32704) 0x10000000100000001))) K.dead) K.dead) K.dead) K.dead) K.dead) K.dead) K.dead)
def x142 : K := K.node (K.node (K.node (K.leaf (AO.map [])) K.dead) K.dead) K.dead
def x149 : K := K.node (K.node K.dead (K.node (K.node (K.node K.dead (K.node (K.node x142 K.dead) K.dead)) K.dead) K.dead)) K.dead
def x153 : T AV := T.leaf (AV.ptr 292 0)
def x156 : T AV := T.node x34 (T.leaf AV.top)
def x159 : T AV := T.leaf (AV.ptr 297 0)
def x166 : T AV := T.leaf (AV.int Go.IntKind.i64 (Int.ofNat 24))
def x167 : T AV := T.node x166 (T.leaf AV.top)
def x171 : T AV := T.node (T.leaf (AV.ptr 293 0)) (T.leaf AV.top)
def x180 : T AV := T.node x28 (T.leaf AV.top)
def x182 : AV := AV.int Go.IntKind.i64 (Int.ofNat 2)
def x183 : T AV := T.leaf x182
def x184 : T AV := T.node x183 (T.leaf AV.top)
def x188 : T AV := T.leaf (AV.ptr 299 0)
def x194 : T AV := T.leaf (AV.ptr 295 0)
def x195 : T AV := T.node x194 (T.leaf AV.top)
def x197 : T AV := T.node x68 x156
def x210 : K := K.node (K.node (K.node K.dead (K.node (K.node (K.node (K.node (K.node (K.leaf (AO.cells true 17 5 (T.node (T.node (T.node (T.node (T.node x153 x44) x68) (T.node x156 (T.node x159 (T.leaf AV.top)))) (T.node (T.node x167 x171) (T.node x156 (T.node (T.leaf (AV.map 291)) (T.leaf AV.top))))) (T.node (T.node (T.node x180 x184) (T.node x156 (T.node x188 (T.leaf AV.top)))) (T.node (T.node x184 x195) x197))))) K.dead) K.dead) K.dead) K.dead) K.dead)) K.dead) K.dead
def x212 : K := K.node (K.node K.dead x210) K.dead
def x213 : K := K.node x212 K.dead
def x216 : K := K.node x149 K.dead
def x224 : T AV := T.node (T.node (T.node (T.leaf (AV.slice 285 0 4096 4096 0)) (T.leaf AV.snil)) x66) x69
def x225 : T AV := T.node x224 x71
def x258 : K := K.node K.dead (K.node (K.node (K.node K.dead (K.node (K.node (K.node (K.node (K.node (K.leaf (AO.cells true 5 3 (T.node (T.node (T.node x159 x44) x171) (T.node x195 (T.node (T.leaf (AV.map 296)) (T.leaf AV.top)))))) K.dead) K.dead) K.dead) K.dead) K.dead)) K.dead) K.dead)
def x259 : K := K.node x258 K.dead
def x260 : K := K.node (K.node (K.node (K.node (K.node (K.node (K.node (K.node (K.node (K.node (K.node (K.leaf (AO.cells true 50 6 (T.node (T.node x225 x80) x96))) K.dead) K.dead) K.dead) K.dead) K.dead) K.dead) x114) K.dead) K.dead) K.dead) x259
def x262 : T AV := T.node x28 (T.leaf AV.snil)
def x263 : T AV := T.node x262 x171
def x264 : T AV := T.node x166 x34
def x266 : AV := AV.int Go.IntKind.i64 (Int.ofNat 1)
def x267 : T AV := T.leaf x266
def x268 : T AV := T.node x267 (T.leaf AV.top)
def x269 : T AV := T.node x264 x268
def x271 : T AV := T.node x183 x34
def x273 : T AV := T.node x183 x44
def x274 : T AV := T.node x273 x156
def x300 : K := K.node (K.node (K.node (K.node K.dead (K.node (K.node (K.node (K.node (K.node (K.leaf (AO.bytes true 4096 (Nat.lor (Nat.shiftLeft 0x2 32704) 0x100000001000000000000000200000018314e48430000000000000002))) K.dead) K.dead) K.dead) K.dead) K.dead)) K.dead) K.dead) K.dead
def x301 : K := K.node K.dead x300
def x303 : K := K.node x260 (K.node (K.node (K.node K.dead (K.node (K.node (K.node K.dead (K.node (K.node (K.node (K.node (K.node (K.leaf (AO.cells true 12 4 (T.node (T.node x263 x269) (T.node (T.node x271 x156) x274)))) K.dead) K.dead) K.dead) K.dead) K.dead)) K.dead) K.dead)) K.dead) x301)
def x307 : T AV := T.node x188 (T.leaf (AV.map 298))
def x308 : T AV := T.node x267 (T.leaf AV.snil)
def x327 : T AV := T.node (T.leaf x7) (T.leaf AV.top)
def x333 : T AV := T.node (T.leaf (AV.int Go.IntKind.i64 (Int.ofNat 26))) x34
def x340 : T AV := T.node x333 (T.node (T.leaf (AV.func (Go.Fn.func 127) [(AV.ptr 292 0)] [])) (T.leaf AV.top))
def x348 : T AV := T.node (T.node (T.node x28 (T.leaf (AV.map 294))) x184) (T.node x264 x47)
def x361 : K := K.node (K.node x131 (K.node (K.node (K.node K.dead (K.node (K.node (K.node (K.node (K.node (K.leaf (AO.cells true 12 4 (T.node (T.node (T.node (T.node x194 (T.leaf AV.snil)) x327) x340) x348))) K.dead) K.dead) K.dead) K.dead) K.dead)) K.dead) K.dead)) K.dead
def xm0 : Mo := ⟨7, [(AV.ptr 2 0), x7], 14, (K.node (K.node K.dead x63) (K.node (K.node (K.node (K.node (K.node (K.node (K.node (K.node (K.node (K.node (K.node (K.node (K.node (K.leaf (AO.cells true 50 6 (T.node (T.node (T.node (T.node (T.node x66 x66) x69) x71) x80) x96))) K.dead) K.dead) K.dead) K.dead) K.dead) K.dead) x114) K.dead) K.dead) K.dead) K.dead) K.dead) (K.node K.dead (K.node (K.node (K.node x131 K.dead) K.dead) K.dead)))), 132, (AV.tup [(AV.ptr 292 0), (AV.agg [x14, x14, x14, AV.snil]), x14]), (K.node (K.node (K.node (K.node K.dead x149) x213) (K.node (K.node x61 x149) x216)) (K.node x303 (K.node (K.node x149 (K.node (K.node K.dead (K.node (K.node (K.node K.dead (K.node (K.node (K.node (K.node (K.node (K.leaf (AO.cells true 7 3 (T.node (T.node x307 x308) (T.node x308 x156)))) K.dead) K.dead) K.dead) K.dead) K.dead)) K.dead) K.dead)) K.dead)) (K.node x361 K.dead)))), 300⟩
def x390 : AV := AV.int Go.IntKind.u8 (Int.ofNat 2)
def x403 : K := K.node (K.node K.dead (K.node (K.node (K.node (K.node (K.node (K.leaf (AO.map [(x266, (AV.agg [x390, x14]))])) K.dead) K.dead) K.dead) K.dead) K.dead)) K.dead
def x417 : K := K.node (K.node (K.node K.dead (K.node (K.node (K.node (K.node (K.node (K.leaf (AO.cells true 1 0 x267)) K.dead) K.dead) K.dead) K.dead) K.dead)) K.dead) K.dead
def x428 : T AV := T.node x267 (T.leaf (AV.slice 302 0 1 1 1))
def x442 : K := K.node (K.node K.dead (K.node (K.node (K.node K.dead (K.node (K.node (K.node (K.node (K.node (K.leaf (AO.cells true 7 3 (T.node (T.node x307 (T.node x183 (T.leaf AV.snil))) (T.node x428 x156)))) K.dead) K.dead) K.dead) K.dead) K.dead)) K.dead) K.dead)) K.dead
def x470 : K := K.node (K.node (K.node (K.node (K.node (K.leaf (AO.map [(x266, (AV.agg []))])) K.dead) K.dead) K.dead) K.dead) K.dead
def x506 : K := K.node (K.node K.dead (K.node (K.node (K.node K.dead (K.node (K.node (K.node (K.node (K.node (K.leaf (AO.map [(x266, x14)])) K.dead) K.dead) K.dead) K.dead) K.dead)) K.dead) K.dead)) K.dead
def x508 : T AV := T.leaf (AV.bool true)
def x528 : K := K.node K.dead (K.node (K.node K.dead (K.node (K.node (K.node (K.node (K.node (K.leaf (AO.cells true 5 3 (T.node (T.node (T.node x267 x508) x268) (T.node (T.node (T.leaf (AV.slice 493 0 4080 4080 1)) (T.leaf AV.top)) (T.node x508 (T.leaf AV.top)))))) K.dead) K.dead) K.dead) K.dead) K.dead)) K.dead)
def x562 : K := K.node (K.node (K.node (K.node (K.leaf (AO.bytes true 4080 0x7801feffffffffffffff0000610002000b000a0000000000010001)) K.dead) K.dead) K.dead) K.dead
def x568 : K := K.node (K.node K.dead (K.node K.dead (K.node K.dead (K.node K.dead (K.node x562 K.dead))))) x300
def x604 : K := K.node (K.node (K.node K.dead (K.node (K.node (K.node (K.node (K.node (K.leaf (AO.cells true 12 4 (T.node (T.node (T.node (T.node x194 (T.leaf (AV.slice 334 0 1 1 5))) x327) x340) x348))) K.dead) K.dead) K.dead) K.dead) K.dead)) K.dead) K.dead
def x607 : K := K.node (K.node (K.node K.dead x604) K.dead) K.dead
def xm1 : Mo := ⟨43, [(AV.ptr 292 0), x266, (AV.slice 303 0 1 1 0), (AV.slice 304 0 1 1 0)], 14, (K.node (K.node (K.node (K.node (K.node K.dead (K.node K.dead (K.node (K.node (K.node K.dead (K.node (K.node (K.node (K.node (K.node (K.leaf (AO.bytes true 1 120)) K.dead) K.dead) K.dead) K.dead) K.dead)) K.dead) K.dead))) x149) x213) (K.node (K.node x61 (K.node (K.node K.dead (K.node x403 K.dead)) K.dead)) (K.node x149 (K.node (K.node K.dead x417) K.dead)))) (K.node x303 (K.node (K.node x149 x442) (K.node x361 (K.node (K.node K.dead (K.node (K.node (K.node K.dead (K.node (K.node (K.node (K.node (K.node (K.leaf (AO.bytes true 1 97)) K.dead) K.dead) K.dead) K.dead) K.dead)) K.dead) K.dead)) K.dead))))), 305, x14, (K.node (K.node (K.node (K.node K.dead (K.node (K.node K.dead (K.node (K.node (K.node K.dead x470) K.dead) K.dead)) K.dead)) x213) (K.node (K.node x61 (K.node (K.node K.dead (K.node x403 (K.node K.dead (K.node K.dead (K.node (K.node (K.node (K.node (K.node (K.leaf (AO.bytes true 4100 0x7801feffffffffffffff0000610002000b000a00000000000100010100000001000100000000000000010100001000)) K.dead) K.dead) K.dead) K.dead) K.dead))))) K.dead)) (K.node x506 (K.node (K.node x528 x417) K.dead)))) (K.node (K.node x260 (K.node (K.node (K.node K.dead (K.node (K.node (K.node K.dead (K.node (K.node (K.node (K.node (K.node (K.leaf (AO.cells true 12 4 (T.node (T.node (T.node (T.node x28 (T.leaf (AV.slice 490 0 4100 4100 1))) x171) x269) (T.node (T.node (T.node x183 x267) x156) x274)))) K.dead) K.dead) K.dead) K.dead) K.dead)) K.dead) K.dead)) K.dead) x568)) (K.node (K.node (K.node (K.node K.dead (K.node (K.node (K.node K.dead (K.node (K.node (K.node (K.node (K.node (K.leaf (AO.map [(x266, (AV.slice 498 0 1 1 1))])) K.dead) K.dead) K.dead) K.dead) K.dead)) K.dead) K.dead)) K.dead) x442) x607))), 499⟩
def x626 : K := K.node K.dead (K.node (K.node (K.node (K.node (K.leaf (AO.bytes true 4096 (Nat.lor (Nat.shiftLeft 0x200000001 32704) 0x7801feffffffffffffff0000610002000b000a00000000000100010100000001000100000000000000010100001000000010130000000200000001))) K.dead) K.dead) K.dead) K.dead)
def x645 : K := K.node K.dead (K.node K.dead (K.node (K.node (K.node (K.node K.dead (K.node (K.node (K.node (K.node (K.leaf (AO.bytes true 4096 (Nat.lor (Nat.shiftLeft 0x200000002 32704) (Nat.lor (Nat.shiftLeft 0x1020000000b 288) 0x270000000200000002)))) K.dead) K.dead) K.dead) K.dead)) K.dead) K.dead) K.dead))
def x646 : K := K.node x212 x645
def x687 : K := K.node x506 (K.node (K.node x528 K.dead) K.dead)
def x696 : T AV := T.node (T.node (T.node (T.node (T.leaf (AV.slice 552 0 4096 4096 0)) (T.leaf AV.snil)) x68) x78) x71
def x702 : T AV := T.node (T.node (T.leaf (AV.slice 572 0 4096 4096 0)) (T.leaf AV.snil)) x68
def x705 : T AV := T.node x88 (T.node (T.node x702 x93) x71)
def x715 : K := K.node (K.node (K.node (K.node (K.node (K.node (K.node (K.leaf (AO.cells true 50 6 (T.node (T.node x225 x696) x705))) K.dead) K.dead) K.dead) K.dead) K.dead) K.dead) x114
def x731 : AV := AV.int Go.IntKind.i64 (Int.ofNat 3)
def x732 : T AV := T.leaf x731
def x733 : T AV := T.node x732 (T.leaf AV.top)
def x734 : T AV := T.node (T.node x166 x183) x733
def x738 : T AV := T.node x273 x184
def x750 : K := K.node (K.node (K.node K.dead (K.node (K.node (K.node (K.node (K.node (K.leaf (AO.cells true 12 4 (T.node (T.node x263 x734) (T.node (T.node (T.node x183 x183) x184) x738)))) K.dead) K.dead) K.dead) K.dead) K.dead)) K.dead) K.dead
def x755 : T AV := T.node x732 (T.leaf AV.snil)
def x777 : K := K.node (K.node (K.node x626 K.dead) K.dead) K.dead
def x780 : K := K.node K.dead (K.node (K.node K.dead x777) K.dead)
def x784 : K := K.node (K.node x715 K.dead) K.dead
def x785 : K := K.node x784 K.dead
def xm2 : Mo := ⟨43, [(AV.ptr 292 0), x182, (AV.slice 577 0 1 1 0), (AV.slice 578 0 1 1 0)], 14, (K.node (K.node (K.node (K.node K.dead (K.node (K.node K.dead (K.node (K.node (K.node x626 x470) K.dead) K.dead)) K.dead)) x646) (K.node (K.node (K.node (K.node (K.node x58 (K.node (K.node (K.node K.dead (K.node (K.node (K.node (K.node (K.leaf (AO.bytes true 1 121)) K.dead) K.dead) K.dead) K.dead)) K.dead) K.dead)) K.dead) K.dead) (K.node (K.node K.dead (K.node (K.node (K.node K.dead (K.node (K.node (K.node (K.node (K.node (K.leaf (AO.map [(x266, (AV.agg [(AV.int Go.IntKind.u8 (Int.ofNat 3)), x266])), (x182, (AV.agg [x390, x266]))])) K.dead) K.dead) K.dead) K.dead) K.dead)) K.dead) K.dead)) K.dead)) x687)) (K.node (K.node (K.node (K.node (K.node (K.node x715 (K.node (K.node (K.node K.dead (K.node (K.node (K.node (K.node (K.leaf (AO.bytes true 1 98)) K.dead) K.dead) K.dead) K.dead)) K.dead) K.dead)) K.dead) K.dead) x259) (K.node (K.node (K.node K.dead x750) K.dead) x568)) (K.node (K.node x149 (K.node (K.node K.dead (K.node (K.node (K.node K.dead (K.node (K.node (K.node (K.node (K.node (K.leaf (AO.cells true 7 3 (T.node (T.node x307 x755) (T.node x428 x268)))) K.dead) K.dead) K.dead) K.dead) K.dead)) K.dead) K.dead)) K.dead)) x607))), 579, x14, (K.node (K.node (K.node x780 x646) x63) (K.node (K.node (K.node x785 x259) (K.node (K.node (K.node (K.node K.dead (K.node (K.node K.dead (K.node K.dead (K.node (K.node (K.node (K.node (K.leaf (AO.bytes true 70 0x7901fdffffffffffffff0000620002000b7801feffffffffffffff0000610002000b001d000c000000000002002c000200010000000001000100000000000000020100000042)) K.dead) K.dead) K.dead) K.dead))) K.dead)) (K.node (K.node (K.node K.dead (K.node (K.node (K.node (K.node (K.node (K.leaf (AO.cells true 12 4 (T.node (T.node (T.node (T.node x28 (T.leaf (AV.slice 837 0 70 70 1))) x171) x734) (T.node (T.node (T.node x183 x732) x184) x738)))) K.dead) K.dead) K.dead) K.dead) K.dead)) K.dead) K.dead)) K.dead) x301)) K.dead)), 846⟩
def x828 : AV := AV.slice 768 0 4080 4080 1
def x852 : K := K.node (K.node (K.node (K.leaf (AO.cells true 1 0 x183)) K.dead) K.dead) K.dead
def x860 : K := K.node (K.node (K.node (K.node (K.node (K.node K.dead (K.node K.dead (K.node (K.node (K.node (K.node (K.leaf (AO.bytes true 4080 0x7901fdffffffffffffff0000620002000b7801feffffffffffffff0000610002000b001d000c0000000000020001)) K.dead) K.dead) K.dead) K.dead))) K.dead) K.dead) K.dead) K.dead) (K.node (K.node (K.node (K.node K.dead (K.node (K.node K.dead (K.node x852 K.dead)) K.dead)) K.dead) x777) K.dead)
def x883 : T AV := T.leaf (AV.int Go.IntKind.u32 (Int.ofNat 0))
def x899 : K := K.node K.dead (K.node (K.node (K.node K.dead (K.node (K.node K.dead (K.node (K.node (K.node (K.node (K.leaf (AO.cells true 7 3 (T.node (T.node (T.node (T.leaf (AV.ptr 666 0)) (T.leaf (AV.int Go.IntKind.i32 (Int.ofNat 0)))) (T.node (T.leaf (AV.map 665)) x44)) (T.node (T.node x159 x883) (T.node x883 (T.leaf AV.top)))))) K.dead) K.dead) K.dead) K.dead)) K.dead)) K.dead) K.dead)
def x916 : K := K.node x258 (K.node (K.node (K.node K.dead (K.node (K.node K.dead (K.node (K.node (K.node (K.node (K.leaf (AO.map [(x266, x828)])) K.dead) K.dead) K.dead) K.dead)) K.dead)) K.dead) K.dead)
def x931 : K := K.node (K.node (K.node (K.node (K.node (K.node K.dead (K.node K.dead (K.node (K.node (K.node (K.node (K.leaf (AO.cells true 3 2 (T.node x308 x68))) K.dead) K.dead) K.dead) K.dead))) K.dead) K.dead) x750) K.dead) x301
def x946 : K := K.node x216 (K.node (K.node (K.node (K.node (K.node K.dead (K.node (K.node K.dead (K.node (K.node (K.node (K.node (K.leaf (AO.cells true 1 0 x153)) K.dead) K.dead) K.dead) K.dead)) K.dead)) K.dead) x604) K.dead) K.dead)
def xm3 : Mo := ⟨287, [(AV.slice 772 0 4080 4080 1), x828], 14, (K.node (K.node (K.node x860 (K.node (K.node (K.node (K.node (K.node (K.node K.dead (K.node K.dead x562)) K.dead) K.dead) x210) K.dead) x645)) (K.node (K.node x61 x899) x687)) (K.node (K.node (K.node x785 x916) x931) x946)), 775, (AV.tup [(AV.slice 786 0 1 1 2), x14]), (K.node (K.node (K.node x860 x646) (K.node (K.node (K.node x60 (K.node (K.node (K.node (K.node K.dead (K.node K.dead (K.node (K.node (K.node (K.node (K.leaf (AO.cells true 2 1 (T.node x183 (T.leaf (AV.slice 785 0 44 44 1))))) K.dead) K.dead) K.dead) K.dead))) K.dead) K.dead) K.dead)) x899) x687)) (K.node (K.node (K.node (K.node x784 (K.node (K.node (K.node (K.node K.dead (K.node K.dead (K.node (K.node (K.node (K.node (K.leaf (AO.bytes true 44 0x7901fdffffffffffffff0000620002000b7801feffffffffffffff0000610002000b001d000c000000000002)) K.dead) K.dead) K.dead) K.dead))) K.dead) K.dead) K.dead)) x916) x931) x946)), 787⟩
def x1009 : T AV := T.node (T.node x224 (T.node (T.node (T.node (T.leaf (AV.slice 867 0 4096 4096 0)) (T.leaf AV.snil)) x68) x69)) x696
def x1045 : T AV := T.leaf (AV.ptr 1208 0)
def x1050 : T AV := T.node (T.leaf (AV.ptr 1204 0)) (T.leaf AV.top)
def x1054 : T AV := T.leaf (AV.ptr 1206 0)
def x1055 : T AV := T.node x1054 (T.leaf AV.top)
def x1111 : T AV := T.leaf (AV.ptr 1210 0)
def x1174 : K := K.node (K.node (K.node K.dead (K.node K.dead (K.node K.dead (K.node (K.node K.dead (K.node (K.node (K.node K.dead (K.node (K.node (K.node (K.leaf (AO.cells true 5 3 (T.node (T.node (T.node x1045 x44) x1050) (T.node x1055 (T.node (T.leaf (AV.map 1207)) (T.leaf AV.top)))))) K.dead) K.dead) K.dead)) K.dead) K.dead)) K.dead)))) (K.node (K.node K.dead (K.node K.dead (K.node (K.node K.dead (K.node (K.node (K.node K.dead (K.node (K.node (K.node (K.leaf (AO.cells true 12 4 (T.node (T.node (T.node x262 x1050) x269) (T.node (T.node x271 x733) (T.node (T.node x732 x44) x156))))) K.dead) K.dead) K.dead)) K.dead) K.dead)) K.dead))) (K.node K.dead (K.node (K.node K.dead (K.node (K.node (K.node (K.node K.dead (K.node (K.node (K.node (K.leaf (AO.bytes true 4096 (Nat.lor (Nat.shiftLeft 0x3 32736) 0x7901fdffffffffffffff0000620002000b7801feffffffffffffff0000610002000b001d000c00000000000200010000000300000000))) K.dead) K.dead) K.dead)) K.dead) K.dead) K.dead)) K.dead)))) (K.node (K.node x61 (K.node K.dead (K.node K.dead (K.node (K.node K.dead (K.node (K.node (K.node K.dead (K.node (K.node (K.node (K.leaf (AO.cells true 7 3 (T.node (T.node (T.node x1111 (T.leaf (AV.map 1209))) (T.node x732 (T.leaf (AV.slice 1212 0 1 1 1)))) (T.node x755 x156)))) K.dead) K.dead) K.dead)) K.dead) K.dead)) K.dead)))) (K.node (K.node K.dead (K.node K.dead (K.node (K.node K.dead (K.node (K.node (K.node K.dead (K.node (K.node (K.node (K.leaf (AO.cells true 12 4 (T.node (T.node (T.node (T.node x1054 (T.leaf AV.snil)) x327) (T.node x333 (T.node (T.leaf (AV.func (Go.Fn.func 127) [(AV.ptr 1203 0)] [])) (T.leaf AV.top)))) (T.node (T.node (T.node x28 (T.leaf (AV.map 1205))) x733) (T.node (T.node x166 x267) x47))))) K.dead) K.dead) K.dead)) K.dead) K.dead)) K.dead))) (K.node K.dead (K.node K.dead (K.node (K.node K.dead (K.node (K.node (K.node K.dead x852) K.dead) K.dead)) K.dead)))))
def xm4 : Mo := ⟨7, [(AV.ptr 2 0), x7], 14, (K.node (K.node (K.node x780 (K.node K.dead x645)) x63) (K.node (K.node (K.node (K.node (K.node (K.node (K.node (K.node (K.node (K.node (K.node (K.node (K.node (K.leaf (AO.cells true 50 6 (T.node x1009 x705))) K.dead) K.dead) K.dead) K.dead) K.dead) K.dead) x114) K.dead) K.dead) K.dead) K.dead) (K.node K.dead x301)) (K.node (K.node (K.node (K.node K.dead (K.node K.dead (K.node (K.node K.dead (K.node K.dead (K.node (K.node (K.node (K.node (K.leaf (AO.bytes true 4096 (Nat.lor (Nat.shiftLeft 0x200000003 32704) 0x7901fdffffffffffffff0000620002000b7801feffffffffffffff0000610002000b001d000c000000000002002c000200010000000001000100000000000000020100000042000000460000000200000003))) K.dead) K.dead) K.dead) K.dead))) K.dead))) K.dead) K.dead) K.dead))), 871, (AV.tup [(AV.ptr 1203 0), (AV.agg [x731, x266, x266, (AV.slice 1214 0 1 1 1)]), x14]), (K.node x1174 (K.node (K.node (K.node (K.node (K.node (K.node (K.node (K.node (K.node (K.node (K.node (K.node (K.node (K.leaf (AO.cells true 50 6 (T.node x1009 (T.node (T.node (T.node (T.node (T.node (T.leaf (AV.slice 1196 0 4096 4096 0)) (T.leaf AV.snil)) x66) x69) x71) (T.node (T.node x702 (T.node x66 (T.node (T.leaf (AV.slice 1116 0 4096 4096 0)) (T.leaf AV.top)))) x71))))) K.dead) K.dead) K.dead) K.dead) K.dead) K.dead) K.dead) K.dead) K.dead) K.dead) (K.node K.dead (K.node K.dead (K.node (K.node K.dead (K.node (K.node (K.node K.dead (K.node (K.node (K.node (K.leaf (AO.map [(x182, (AV.agg [(AV.int Go.IntKind.u8 (Int.ofNat 4)), x14]))])) K.dead) K.dead) K.dead)) K.dead) K.dead)) K.dead)))) (K.node (K.node K.dead (K.node K.dead (K.node (K.node K.dead (K.node (K.node (K.node K.dead x142) K.dead) K.dead)) K.dead))) K.dead)) (K.node (K.node (K.node K.dead (K.node K.dead (K.node (K.node K.dead (K.node (K.node (K.node K.dead (K.node (K.node (K.node (K.leaf (AO.cells true 17 5 (T.node (T.node (T.node (T.node (T.node (T.leaf (AV.ptr 1203 0)) x44) x68) (T.node x156 (T.node x1045 (T.leaf AV.top)))) (T.node (T.node x167 x1050) (T.node x156 (T.node (T.leaf (AV.map 1202)) (T.leaf AV.top))))) (T.node (T.node (T.node x180 x733) (T.node x156 (T.node x1111 (T.leaf AV.top)))) (T.node (T.node x733 x1055) x197))))) K.dead) K.dead) K.dead)) K.dead) K.dead)) K.dead))) K.dead) K.dead))), 1215⟩

set_option maxRecDepth 100000 in
theorem xm0_run : moB (callQ Tryz.prog mixed 1 ext0 hint 200) xm0 = true := by kernel_rfl
theorem xm0_ok : MoOk Tryz.prog 1 xm0 := moOk_of (callQ_ok ext0_ok hint 200) xm0_run
set_option maxRecDepth 100000 in
theorem xm1_run : moB (callQ Tryz.prog mixed 1 ext0 hint 200) xm1 = true := by kernel_rfl
theorem xm1_ok : MoOk Tryz.prog 1 xm1 := moOk_of (callQ_ok ext0_ok hint 200) xm1_run
set_option maxRecDepth 100000 in
theorem xm3_run : moB (callQ Tryz.prog mixed 1 ext0 hint 200) xm3 = true := by kernel_rfl
theorem xm3_ok : MoOk Tryz.prog 1 xm3 := moOk_of (callQ_ok ext0_ok hint 200) xm3_run
set_option maxRecDepth 100000 in
theorem xm2_run : moB (callQ Tryz.prog mixed 1 (orE ext0 (moE 248661618204893321077691124073410420050228075398673858720231988446579748506266687766528 [xm3])) hint 200) xm2 = true := by kernel_rfl
theorem xm2_ok : MoOk Tryz.prog 1 xm2 := by
  have h3 := xm3_ok
  exact moOk_of (callQ_ok (orE_ok ext0_ok (moE_ok (mask := 248661618204893321077691124073410420050228075398673858720231988446579748506266687766528) (l := [xm3]) (by intro m hm; simp only [List.mem_cons, List.not_mem_nil, or_false] at hm; rcases hm with rfl <;> assumption))) hint 200) xm2_run
set_option maxRecDepth 100000 in
theorem xm4_run : moB (callQ Tryz.prog mixed 1 ext0 hint 200) xm4 = true := by kernel_rfl
theorem xm4_ok : MoOk Tryz.prog 1 xm4 := moOk_of (callQ_ok ext0_ok hint 200) xm4_run

end
end Go.Proofs.YtecnddogdiikiaaGreat

