/- The types of the program as the walk knows them, checked against the program.; S -/
import Derived.Test.YtokfbblhjpfjkaaGreatProg
import Derived.Test.YtokfbblhjpfjkaaGreatGB
import Derived.Test.YtokfbblhjpfjkaaGreatRows
set_option linter.unusedSimpArgs false
set_option linter.unusedVariables false
namespace Go.Proofs.YtokfbblhjpfjkaaGreat
open Go.Aw
def tbl:List (Nat×TI):=[
 (3,⟨1,8,.scalar,[.int .i64 0],[]⟩),
 (4,⟨1,1,.scalar,[.bool false],[]⟩),
 (23,⟨1,24,.slice 25,[.lst 3 [] true],[]⟩),
 (25,⟨3,40,.struct [(0,3),(1,3),(2,23)],[.int .i64 0,.int .i64 0,.lst 3 [] true],[(0,1),(1,1),(2,1)]⟩),
 (49,⟨12,160,.struct [(0,3),(1,25),(4,25),(7,3),(8,3),(9,47)],[.int .i64 0,.int .i64 0,.int .i64 0,.lst 3 [] true,.int .i64 0,.int .i64 0,.lst 3 [] true,.int .i64 0,.int .i64 0,.lst 6 [] true,.lst 6 [] true,.int .i64 0],[(0,1),(1,3),(4,3),(7,1),(8,1),(9,3)]⟩),
 (47,⟨3,56,.struct [(0,44),(1,45),(2,3)],[.lst 6 [] true,.lst 6 [] true,.int .i64 0],[(0,1),(1,1),(2,1)]⟩),
 (101,⟨1,24,.slice 130,[.lst 7 [] true],[]⟩),
 (130,⟨7,104,.struct [(0,4),(1,25),(4,23),(5,3),(6,23)],[.bool false,.int .i64 0,.int .i64 0,.lst 3 [] true,.lst 3 [] true,.int .i64 0,.lst 3 [] true],[(0,1),(1,3),(4,1),(5,1),(6,1)]⟩),
 (103,⟨6,80,.struct [(0,101),(1,3),(2,4),(3,25)],[.lst 7 [] true,.int .i64 0,.bool false,.int .i64 0,.int .i64 0,.lst 3 [] true],[(0,1),(1,1),(2,1),(3,3)]⟩),
 (105,⟨6,96,.struct [(0,3),(1,101),(2,23),(3,25)],[.int .i64 0,.lst 7 [] true,.lst 3 [] true,.int .i64 0,.int .i64 0,.lst 3 [] true],[(0,1),(1,1),(2,1),(3,3)]⟩),
 (44,⟨1,24,.slice 103,[.lst 6 [] true],[]⟩),
 (45,⟨1,24,.slice 105,[.lst 6 [] true],[]⟩),
 (22,⟨1,24,.slice 49,[.lst 12 [] true],[]⟩),
 (29,⟨1,8,.scalar,[.int .i64 0],[]⟩),
 (157,⟨6,96,.struct [(0,47),(3,3),(4,101),(5,3)],[.lst 6 [] true,.lst 6 [] true,.int .i64 0,.int .i64 0,.lst 7 [] true,.int .i64 0],[(0,3),(3,1),(4,1),(5,1)]⟩),
 (141,⟨6,112,.struct [(0,47),(3,3),(4,50),(5,101)],[.lst 6 [] true,.lst 6 [] true,.int .i64 0,.int .i64 0,.lst 1 [] true,.lst 7 [] true],[(0,3),(3,1),(4,1),(5,1)]⟩),
 (1,⟨1,8,.scalar,[.nilf],[]⟩),
 (2,⟨1,8,.scalar,[.int .i64 0],[]⟩),
 (5,⟨1,1,.scalar,[.int .u8 0],[]⟩),
 (9,⟨1,16,.scalar,[.str ByteArray.empty],[]⟩),
 (12,⟨1,8,.scalar,[.int .u64 0],[]⟩),
 (13,⟨2,24,.struct [(0,9),(1,12)],[.str ByteArray.empty,.int .u64 0],[(0,1),(1,1)]⟩),
 (21,⟨1,4,.scalar,[.int .i32 0],[]⟩),
 (24,⟨3,40,.struct [(0,3),(1,3),(2,23)],[.int .i64 0,.int .i64 0,.lst 3 [] true],[(0,1),(1,1),(2,1)]⟩),
 (26,⟨1,8,.scalar,[.nilf],[]⟩),
 (27,⟨1,8,.scalar,[.nilf],[]⟩),
 (28,⟨1,8,.scalar,[.nilf],[]⟩),
 (30,⟨1,8,.scalar,[.nilf],[]⟩),
 (31,⟨1,24,.slice 50,[.lst 1 [] true],[]⟩),
 (32,⟨1,24,.struct [(0,31)],[.lst 1 [] true],[(0,1)]⟩),
 (33,⟨1,24,.struct [(0,31)],[.lst 1 [] true],[(0,1)]⟩),
 (36,⟨1,8,.scalar,[.nilf],[]⟩),
 (37,⟨1,8,.scalar,[.nilf],[]⟩),
 (38,⟨1,8,.scalar,[.nilf],[]⟩),
 (39,⟨1,8,.scalar,[.nilf],[]⟩),
 (40,⟨1,8,.scalar,[.nilf],[]⟩),
 (41,⟨1,8,.scalar,[.nilf],[]⟩),
 (42,⟨1,8,.scalar,[.int .u64 0],[]⟩),
 (43,⟨1,8,.scalar,[.nilf],[]⟩),
 (46,⟨3,56,.struct [(0,44),(1,45),(2,3)],[.lst 6 [] true,.lst 6 [] true,.int .i64 0],[(0,1),(1,1),(2,1)]⟩),
 (48,⟨12,160,.struct [(0,3),(1,25),(4,25),(7,3),(8,3),(9,47)],[.int .i64 0,.int .i64 0,.int .i64 0,.lst 3 [] true,.int .i64 0,.int .i64 0,.lst 3 [] true,.int .i64 0,.int .i64 0,.lst 6 [] true,.lst 6 [] true,.int .i64 0],[(0,1),(1,3),(4,3),(7,1),(8,1),(9,3)]⟩),
 (50,⟨1,24,.slice 3,[.lst 1 [] true],[]⟩),
 (51,⟨1,8,.scalar,[.nilf],[]⟩),
 (52,⟨1,8,.scalar,[.nilf],[]⟩),
 (53,⟨1,8,.scalar,[.nilf],[]⟩),
 (54,⟨1,8,.scalar,[.nilf],[]⟩),
 (56,⟨1,8,.scalar,[.nilf],[]⟩),
 (58,⟨1,8,.scalar,[.nilf],[]⟩),
 (59,⟨1,8,.scalar,[.nilf],[]⟩),
 (60,⟨1,8,.scalar,[.nilf],[]⟩),
 (61,⟨1,8,.scalar,[.nilf],[]⟩),
 (62,⟨1,24,.slice 33,[.lst 1 [] true],[]⟩),
 (65,⟨1,8,.scalar,[.nilf],[]⟩),
 (66,⟨1,8,.scalar,[.nilf],[]⟩),
 (67,⟨1,8,.scalar,[.nilf],[]⟩),
 (68,⟨1,8,.scalar,[.nilf],[]⟩),
 (69,⟨1,8,.scalar,[.nilf],[]⟩),
 (70,⟨1,8,.scalar,[.nilf],[]⟩),
 (71,⟨1,8,.scalar,[.nilf],[]⟩),
 (72,⟨1,8,.scalar,[.nilf],[]⟩),
 (75,⟨1,8,.scalar,[.nilf],[]⟩),
 (76,⟨1,8,.scalar,[.nilf],[]⟩),
 (77,⟨1,8,.scalar,[.nilf],[]⟩),
 (78,⟨1,8,.scalar,[.nilf],[]⟩),
 (79,⟨1,8,.scalar,[.nilf],[]⟩),
 (80,⟨1,8,.scalar,[.nilf],[]⟩),
 (81,⟨1,8,.scalar,[.nilf],[]⟩),
 (82,⟨1,8,.scalar,[.nilf],[]⟩),
 (83,⟨1,8,.scalar,[.nilf],[]⟩),
 (84,⟨1,8,.scalar,[.nilf],[]⟩),
 (85,⟨1,8,.scalar,[.nilf],[]⟩),
 (86,⟨1,8,.scalar,[.nilf],[]⟩),
 (87,⟨1,8,.scalar,[.nilp],[]⟩),
 (88,⟨4,64,.struct [(0,22),(1,3),(2,3),(3,62)],[.lst 12 [] true,.int .i64 0,.int .i64 0,.lst 1 [] true],[(0,1),(1,1),(2,1),(3,1)]⟩),
 (89,⟨4,64,.struct [(0,22),(1,3),(2,3),(3,62)],[.lst 12 [] true,.int .i64 0,.int .i64 0,.lst 1 [] true],[(0,1),(1,1),(2,1),(3,1)]⟩),
 (91,⟨1,8,.scalar,[.nilf],[]⟩),
 (92,⟨1,8,.scalar,[.nilf],[]⟩),
 (93,⟨1,8,.scalar,[.nilf],[]⟩),
 (94,⟨1,8,.scalar,[.nilf],[]⟩),
 (95,⟨1,8,.scalar,[.nilf],[]⟩),
 (96,⟨1,8,.scalar,[.nilf],[]⟩),
 (97,⟨1,8,.scalar,[.nilf],[]⟩),
 (99,⟨1,8,.scalar,[.nilf],[]⟩),
 (100,⟨1,8,.scalar,[.nilf],[]⟩),
 (102,⟨6,80,.struct [(0,101),(1,3),(2,4),(3,25)],[.lst 7 [] true,.int .i64 0,.bool false,.int .i64 0,.int .i64 0,.lst 3 [] true],[(0,1),(1,1),(2,1),(3,3)]⟩),
 (104,⟨6,96,.struct [(0,3),(1,101),(2,23),(3,25)],[.int .i64 0,.lst 7 [] true,.lst 3 [] true,.int .i64 0,.int .i64 0,.lst 3 [] true],[(0,1),(1,1),(2,1),(3,3)]⟩),
 (106,⟨1,8,.scalar,[.any],[]⟩),
 (107,⟨1,8,.scalar,[.nilf],[]⟩),
 (109,⟨1,8,.scalar,[.nilf],[]⟩),
 (110,⟨1,8,.scalar,[.nilf],[]⟩),
 (111,⟨1,8,.scalar,[.nilf],[]⟩),
 (112,⟨1,8,.scalar,[.nilf],[]⟩),
 (113,⟨1,8,.scalar,[.nilf],[]⟩),
 (114,⟨1,8,.scalar,[.nilf],[]⟩),
 (115,⟨1,8,.scalar,[.nilf],[]⟩),
 (116,⟨1,8,.scalar,[.nilf],[]⟩),
 (117,⟨1,8,.scalar,[.nilf],[]⟩),
 (118,⟨1,8,.scalar,[.nilf],[]⟩),
 (119,⟨1,8,.scalar,[.nilf],[]⟩),
 (120,⟨1,8,.scalar,[.nilf],[]⟩),
 (121,⟨1,8,.scalar,[.nilf],[]⟩),
 (122,⟨1,8,.scalar,[.nilp],[]⟩),
 (123,⟨3,40,.struct [(0,22),(1,121),(2,29)],[.lst 12 [] true,.nilf,.int .i64 0],[(0,1),(1,1),(2,1)]⟩),
 (124,⟨3,40,.struct [(0,22),(1,121),(2,29)],[.lst 12 [] true,.nilf,.int .i64 0],[(0,1),(1,1),(2,1)]⟩),
 (125,⟨1,8,.scalar,[.nilf],[]⟩),
 (126,⟨1,8,.scalar,[.nilf],[]⟩),
 (127,⟨1,8,.scalar,[.nilf],[]⟩),
 (128,⟨1,8,.scalar,[.nilf],[]⟩),
 (129,⟨7,104,.struct [(0,4),(1,25),(4,23),(5,3),(6,23)],[.bool false,.int .i64 0,.int .i64 0,.lst 3 [] true,.lst 3 [] true,.int .i64 0,.lst 3 [] true],[(0,1),(1,3),(4,1),(5,1),(6,1)]⟩),
 (131,⟨1,8,.scalar,[.nilf],[]⟩),
 (133,⟨1,8,.scalar,[.nilf],[]⟩),
 (134,⟨1,8,.scalar,[.nilf],[]⟩),
 (135,⟨1,8,.scalar,[.nilf],[]⟩),
 (136,⟨1,8,.scalar,[.nilf],[]⟩),
 (138,⟨1,8,.scalar,[.nilf],[]⟩),
 (139,⟨1,8,.scalar,[.nilf],[]⟩),
 (140,⟨6,112,.struct [(0,47),(3,3),(4,50),(5,101)],[.lst 6 [] true,.lst 6 [] true,.int .i64 0,.int .i64 0,.lst 1 [] true,.lst 7 [] true],[(0,3),(3,1),(4,1),(5,1)]⟩),
 (142,⟨1,8,.scalar,[.nilf],[]⟩),
 (143,⟨1,8,.scalar,[.nilf],[]⟩),
 (144,⟨1,8,.scalar,[.nilf],[]⟩),
 (145,⟨1,8,.scalar,[.nilf],[]⟩),
 (146,⟨1,8,.scalar,[.nilf],[]⟩),
 (147,⟨1,8,.scalar,[.nilf],[]⟩),
 (148,⟨1,8,.scalar,[.nilf],[]⟩),
 (149,⟨1,8,.scalar,[.nilf],[]⟩),
 (151,⟨1,8,.scalar,[.nilf],[]⟩),
 (152,⟨1,8,.scalar,[.nilf],[]⟩),
 (153,⟨1,8,.scalar,[.nilf],[]⟩),
 (155,⟨1,8,.scalar,[.nilf],[]⟩),
 (156,⟨6,96,.struct [(0,47),(3,3),(4,101),(5,3)],[.lst 6 [] true,.lst 6 [] true,.int .i64 0,.int .i64 0,.lst 7 [] true,.int .i64 0],[(0,3),(3,1),(4,1),(5,1)]⟩),
 (158,⟨1,8,.scalar,[.nilf],[]⟩),
 (159,⟨1,8,.scalar,[.nilf],[]⟩),
 (160,⟨1,8,.scalar,[.nilf],[]⟩),
 (161,⟨1,8,.scalar,[.nilf],[]⟩),
 (162,⟨1,8,.scalar,[.nilp],[]⟩),
 (164,⟨1,8,.scalar,[.nilf],[]⟩),
 (165,⟨1,24,.slice 170,[.lst 6 [] true],[]⟩),
 (166,⟨5,56,.struct [(0,165),(1,3),(2,4),(3,3),(4,3)],[.lst 6 [] true,.int .i64 0,.bool false,.int .i64 0,.int .i64 0],[(0,1),(1,1),(2,1),(3,1),(4,1)]⟩),
 (167,⟨5,56,.struct [(0,165),(1,3),(2,4),(3,3),(4,3)],[.lst 6 [] true,.int .i64 0,.bool false,.int .i64 0,.int .i64 0],[(0,1),(1,1),(2,1),(3,1),(4,1)]⟩),
 (168,⟨1,8,.scalar,[.nilf],[]⟩),
 (169,⟨6,64,.struct [(0,25),(3,3),(4,3),(5,3)],[.int .i64 0,.int .i64 0,.lst 3 [] true,.int .i64 0,.int .i64 0,.int .i64 0],[(0,3),(3,1),(4,1),(5,1)]⟩),
 (170,⟨6,64,.struct [(0,25),(3,3),(4,3),(5,3)],[.int .i64 0,.int .i64 0,.lst 3 [] true,.int .i64 0,.int .i64 0,.int .i64 0],[(0,3),(3,1),(4,1),(5,1)]⟩),
 (172,⟨1,8,.scalar,[.nilf],[]⟩),
 (176,⟨1,8,.scalar,[.nilf],[]⟩),
 (177,⟨1,8,.scalar,[.nilf],[]⟩),
 (178,⟨1,8,.scalar,[.nilf],[]⟩),
 (179,⟨1,8,.scalar,[.nilf],[]⟩),
 (181,⟨1,8,.scalar,[.nilf],[]⟩),
 (182,⟨1,8,.scalar,[.nilf],[]⟩),
 (183,⟨1,8,.scalar,[.nilf],[]⟩),
 (184,⟨1,8,.scalar,[.nilf],[]⟩),
 (185,⟨1,8,.scalar,[.nilf],[]⟩),
 (186,⟨1,8,.scalar,[.nilf],[]⟩),
 (188,⟨1,8,.scalar,[.nilf],[]⟩),
 (189,⟨1,8,.scalar,[.any],[]⟩),
 (190,⟨1,8,.scalar,[.nilf],[]⟩),
 (192,⟨1,8,.scalar,[.nilf],[]⟩),
 (195,⟨1,8,.scalar,[.nilf],[]⟩),
 (196,⟨1,8,.scalar,[.nilf],[]⟩),
 (197,⟨1,8,.scalar,[.nilf],[]⟩),
 (198,⟨1,8,.scalar,[.nilp],[]⟩),
 (199,⟨1,8,.struct [(0,29)],[.int .i64 0],[(0,1)]⟩),
 (200,⟨1,8,.struct [(0,29)],[.int .i64 0],[(0,1)]⟩),
 (202,⟨1,8,.scalar,[.nilf],[]⟩),
 (203,⟨1,8,.scalar,[.nilf],[]⟩),
 (204,⟨1,8,.scalar,[.nilf],[]⟩),
 (205,⟨1,8,.scalar,[.nilf],[]⟩),
 (206,⟨1,8,.scalar,[.nilf],[]⟩),
 (207,⟨1,8,.scalar,[.nilf],[]⟩),
 (208,⟨1,8,.scalar,[.nilf],[]⟩),
 (209,⟨1,8,.scalar,[.nilf],[]⟩),
 (210,⟨1,8,.scalar,[.nilf],[]⟩),
 (211,⟨1,8,.scalar,[.nilf],[]⟩),
 (212,⟨1,8,.scalar,[.nilf],[]⟩),
 (213,⟨1,8,.scalar,[.nilf],[]⟩),
 (214,⟨1,8,.scalar,[.nilf],[]⟩),
 (215,⟨1,8,.scalar,[.nilf],[]⟩),
 (216,⟨1,8,.scalar,[.nilf],[]⟩),
 (217,⟨3,24,.struct [(0,3),(1,3),(2,116)],[.int .i64 0,.int .i64 0,.nilf],[(0,1),(1,1),(2,1)]⟩),
 (218,⟨1,24,.slice 217,[.lst 3 [] true],[]⟩),
 (219,⟨1,8,.scalar,[.nilf],[]⟩),
 (220,⟨1,8,.scalar,[.nilf],[]⟩),
 (221,⟨1,8,.scalar,[.nilf],[]⟩),
 (222,⟨1,8,.scalar,[.nilf],[]⟩),
 (223,⟨1,8,.scalar,[.nilf],[]⟩),
 (225,⟨1,8,.scalar,[.nilf],[]⟩),
 (226,⟨1,8,.scalar,[.nilf],[]⟩),
 (227,⟨1,8,.scalar,[.nilf],[]⟩),
 (228,⟨1,8,.scalar,[.nilf],[]⟩),
 (232,⟨1,8,.scalar,[.nilf],[]⟩),
 (233,⟨1,8,.scalar,[.nilf],[]⟩),
 (234,⟨1,8,.scalar,[.nilf],[]⟩),
 (235,⟨1,8,.scalar,[.nilf],[]⟩),
 (236,⟨1,8,.scalar,[.nilf],[]⟩),
 (237,⟨1,4,.scalar,[.int .u32 0],[]⟩),
 (238,⟨1,8,.scalar,[.nilf],[]⟩),
 (239,⟨1,8,.scalar,[.int .u64 0],[]⟩),
 (240,⟨1,8,.scalar,[.nilf],[]⟩),
 (244,⟨1,8,.scalar,[.nilf],[]⟩),
 (245,⟨1,8,.scalar,[.nilf],[]⟩),
 (246,⟨1,8,.scalar,[.nilf],[]⟩),
 (247,⟨1,8,.scalar,[.nilp],[]⟩),
 (248,⟨1,8,.scalar,[.nilf],[]⟩),
 (249,⟨1,8,.scalar,[.nilf],[]⟩),
 (251,⟨1,8,.scalar,[.nilf],[]⟩),
 (252,⟨1,8,.scalar,[.nilf],[]⟩),
 (258,⟨1,8,.scalar,[.nilf],[]⟩),
 (262,⟨1,8,.scalar,[.nilp],[]⟩)]
def look:List (Nat×TI)→Nat→Option TI
 |[],_=>none
 |(k,i)::l,t=>match Nat.beq t k with
  |true=>some i
  |false=>look l t
def ty:Ty:=look tbl
theorem zqn{P:Program}: ∀ {l:List (Nat×TI)},l.all (fun p=>tiOK P p.1 p.2)=true→TyOK P (look l)
 |[],_,t,i,h=>by cases h
 |(k,j)::l,hl,t,i,h=>by
  simp only[List.all_cons,Bool.and_eq_true]at hl
  unfold look at h
  split at h
  ·rename_i e
   obtain rfl:=Option.some.inj h
   rw[Nat.eq_of_beq_eq_true e];exact hl.1
  ·exact zqn hl.2 t i h
theorem hty:TyOK Tryz.prog ty:=zqn (by kernel_rfl)
end Go.Proofs.YtokfbblhjpfjkaaGreat
namespace Go.Proofs.YtokfbblhjpfjkaaGreat
open Go.Aw Go.RowKit
attribute [local irreducible] WL AC WD WE MStep OkOp
theorem zsn: ∀ n,n≤1048576→ ∀ t:Tm,t.size≤n→FC Tryz.prog 43 [aT t] (.int .i64 (t.size:Nat)):=by
 intro n
 induction n with
 |zero=>intro hn t ht;have:=t.size_pos;omega
 |succ n ih=>
 intro hn t ht
 have ih:=ih (by omega)
 have hs:=t.size_eq
 have hlen:=zM t.kids
 refine zo hty Tryz.func43 rfl rfl rfl fun w0=>?_
 repeat'(first|refine WL_p hty rfl rfl ?_|refine zh ?_|refine zi ?_|refine za ?_|refine zf ?_)
 refine zW t.kids.length (fun _=>True) (fun j=>⟨envOf [(1,.ptr 1 0),(3,.int .i64 ((1+sizes (t.kids.take j):Nat):Int)),(4,.int .i64 (j:Nat))],bkOf [(1,.box (cT t))]⟩)
  (zfY ⟨zz rfl rfl,zz rfl rfl,zz rfl rfl,trivial⟩ ⟨zw rfl rfl,trivial⟩) trivial ?_
 intro j hj _
 repeat'(first|refine WL_p hty rfl rfl ?_|refine zi ?_|refine za ?_)
 refine zj rfl rfl rfl rfl (fun hc=>?_) (fun hc=>?_)
 ·have hlt:j <t.kids.length:=by rw[zeb]at hc;omega
  obtain⟨k,hk,hmem⟩:=zA hlt
  have hks:=zK hmem
  have htk:=zb1 t.kids (j+1)
  have hts:=zdp hk
  have rk:=zac hk
  repeat'(first|refine zv 0 rfl (ih k (by omega)) rfl rfl rfl ?_|refine WL_p hty rfl rfl ?_|refine zh ?_|refine zi ?_|refine za ?_|refine zf ?_|refine zxg ?_|refine zd rfl ?_|refine WL_m rfl (zm hty rfl rfl rfl (by assumption) rfl) ?_)
  refine⟨hlt,trivial,(zfY ⟨zz rfl rfl,⟨_,rfl,zO ?_ rfl⟩,⟨_,rfl,zO ?_ rfl⟩,trivial⟩ ⟨zw rfl rfl,trivial⟩)⟩
  ·exact congrArg (AV.int .i64) ((zy (by omega) (by omega)).trans (by omega))
  ·exact congrArg (AV.int .i64) ((zy (by omega) (by omega)).trans (by omega))
 ·obtain rfl:j=t.kids.length:=by rw[zeb]at hc;omega
  repeat'(first|refine WL_p hty rfl rfl ?_|refine zh ?_|refine zi ?_|refine za ?_|refine zbZ rfl ?_|refine zl ?_|refine zg ?_)
  refine zaQ rfl ?_
  rw[List.take_length];omega
theorem zfS(t:Tm)(h:t.size≤1048576):FC Tryz.prog 43 [aT t] (.int .i64 (t.size:Nat)):=zsn 1048576 (by omega) t h
theorem zrH: ∀ n,n≤1048576→ ∀ t:Tm,t.size≤n→FC Tryz.prog 44 [aT t] (.int .i64 (t.depth:Nat)):=by
 intro n
 induction n with
 |zero=>intro hn t ht;have:=t.size_pos;omega
 |succ n ih=>
 intro hn t ht
 have ih:=ih (by omega)
 have hs:=t.size_eq
 have hlen:=zM t.kids
 refine zo hty Tryz.func44 rfl rfl rfl fun w0=>?_
 repeat'(first|refine WL_p hty rfl rfl ?_|refine zh ?_|refine zi ?_|refine za ?_|refine zf ?_)
 refine zW t.kids.length (fun _=>True) (fun j=>⟨envOf [(1,.ptr 1 0),(3,.int .i64 ((zbW (t.kids.take j):Nat):Int)),(4,.int .i64 (j:Nat))],bkOf [(1,.box (cT t))]⟩)
  (zfY ⟨zz rfl rfl,zz rfl rfl,zz rfl rfl,trivial⟩ ⟨zw rfl rfl,trivial⟩) trivial ?_
 intro j hj _
 repeat'(first|refine WL_p hty rfl rfl ?_|refine zi ?_|refine za ?_)
 refine zj rfl rfl rfl rfl (fun hc=>?_) (fun hc=>?_)
 ·have hlt:j <t.kids.length:=by rw[zeb]at hc;omega
  obtain⟨k,hk,hmem⟩:=zA hlt
  have hks:=zK hmem
  have hts:=zet hk
  have rk:=zac hk
  repeat'(first|refine zv 0 rfl (ih k (by omega)) rfl rfl rfl ?_|refine WL_m rfl (zey rfl rfl rfl) ?_|refine WL_p hty rfl rfl ?_|refine zh ?_|refine zi ?_|refine za ?_|refine zf ?_|refine zxg ?_|refine zd rfl ?_|refine WL_m rfl (zm hty rfl rfl rfl (by assumption) rfl) ?_)
  refine⟨hlt,trivial,(zfY ⟨zz rfl rfl,⟨_,rfl,zO ?_ rfl⟩,⟨_,rfl,zO ?_ rfl⟩,trivial⟩ ⟨zw rfl rfl,trivial⟩)⟩
  ·refine congrArg (AV.int .i64) ?_
   rw[hts];split <;>omega
  ·exact congrArg (AV.int .i64) ((zy (by omega) (by omega)).trans (by omega))
 ·obtain rfl:j=t.kids.length:=by rw[zeb]at hc;omega
  have hd:=t.depth_le
  have he:=t.depth_eq
  repeat'(first|refine WL_p hty rfl rfl ?_|refine zh ?_|refine zi ?_|refine za ?_|refine zbZ rfl ?_|refine zl ?_|refine zg ?_)
  refine zaQ rfl ?_
  rw[List.take_length]
  exact(zy (by omega) (by omega)).trans (by omega)
theorem zjf(t:Tm)(h:t.size≤1048576):FC Tryz.prog 44 [aT t] (.int .i64 (t.depth:Nat)):=zrH 1048576 (by omega) t h
theorem zde(l:List Tm)(h:sizes l≤1048576):FC Tryz.prog 16 [sT l] (.bool (zbk l)):=by
 have hlen:=zM l
 refine zo hty Tryz.func16 rfl rfl rfl fun w0=>?_
 repeat'(first|refine WL_p hty rfl rfl ?_|refine zh ?_|refine zi ?_|refine za ?_|refine zf ?_|refine zxg ?_|refine zd rfl ?_|refine zbZ rfl ?_|refine zg ?_|refine zb rfl ?_|refine zj rfl rfl rfl rfl (fun _=>?_) (fun _=>?_))
 ·rename_i hc
  rw[zeb]at hc
  have:60 <l.length:=by omega
  simp[zbk,this]
 rename_i hc
 rw[zeb]at hc
 have h60: ¬60 <l.length:=by omega
 refine zW l.length (fun j=> ∀ i t,i <j→l[i]? =some t→t.depth≤300) (fun j=>⟨envOf [(0,sT l),(3,.int .i64 ((sizes (l.take j):Nat):Int)),(4,.int .i64 (j:Nat))],bkOf []⟩)
  (zfY ⟨zz rfl rfl,zz rfl rfl,zz rfl rfl,trivial⟩ trivial) (fun i t hi=>by omega) ?_
 intro j hj hI
 repeat'(first|refine WL_p hty rfl rfl ?_|refine zi ?_|refine za ?_)
 refine zj rfl rfl rfl rfl (fun hc=>?_) (fun hc=>?_)
 ·have hlt:j <l.length:=by rw[zeb]at hc;omega
  obtain⟨k,hk,hmem⟩:=zA hlt
  have hks:=zK hmem
  have htk:=zb1 l (j+1)
  have hts:=zdp hk
  have rk:=zac hk
  repeat'(first|refine zv 0 rfl (zjf k (by omega)) rfl rfl rfl ?_|refine WL_p hty rfl rfl ?_|refine zh ?_|refine zi ?_|refine za ?_|refine zf ?_|refine zxg ?_|refine zd rfl ?_|refine WL_m rfl (zm hty rfl rfl rfl (by assumption) rfl) ?_)
  refine zj rfl rfl rfl rfl (fun hd=>?_) (fun hd=>?_)
  ·repeat'(first|refine WL_p hty rfl rfl ?_|refine zh ?_|refine zi ?_|refine za ?_|refine zd rfl ?_|refine zg ?_|refine zb rfl ?_)
   have: ∃ t∈l,300 <t.depth:=⟨k,hmem,by omega⟩
   simp only[zbk]
   have h3:l.any (fun t=>decide (300 <t.depth))=true:=by simpa using this
   rw[h3];simp
  ·repeat'(first|refine zv 0 rfl (zfS k (by omega)) rfl rfl rfl ?_|refine WL_p hty rfl rfl ?_|refine zh ?_|refine za ?_|refine zxg ?_|refine zbZ rfl ?_|refine WL_m rfl (zm hty rfl rfl rfl (by assumption) rfl) ?_)
   refine⟨hlt,fun i t hi ht=>?_,(zfY ⟨zz rfl rfl,⟨_,rfl,zO ?_ rfl⟩,⟨_,rfl,zO ?_ rfl⟩,trivial⟩ trivial)⟩
   ·rcases Nat.lt_or_ge i j with q|q
    ·exact hI i t q ht
    ·obtain rfl:i=j:=by omega
     rw[hk]at ht
     obtain rfl:=Option.some.inj ht
     omega
   ·exact congrArg (AV.int .i64) ((zy (by omega) (by omega)).trans (by omega))
   ·exact congrArg (AV.int .i64) ((zy (by omega) (by omega)).trans (by omega))
 ·obtain rfl:j=l.length:=by rw[zeb]at hc;omega
  have h3:l.any (fun t=>decide (300 <t.depth))=false:=by
   rw[List.any_eq_false]
   intro t ht
   obtain⟨i,hi,rfl⟩:=List.mem_iff_getElem.1 ht
   have:=hI i l[i] hi (List.getElem?_eq_getElem hi)
   simp;omega
  repeat'(first|refine WL_p hty rfl rfl ?_|refine zh ?_|refine zi ?_|refine za ?_|refine zbZ rfl ?_|refine zl ?_)
  refine zj rfl rfl rfl rfl (fun hd=>?_) (fun hd=>?_)
  ·rw[List.take_length]at hd
   repeat'(first|refine WL_p hty rfl rfl ?_|refine zh ?_|refine zg ?_|refine zb rfl ?_)
   have:9000 <sizes l:=by omega
   simp[zbk,this]
  ·rw[List.take_length]at hd
   repeat'(first|refine WL_p hty rfl rfl ?_|refine zh ?_|refine zg ?_|refine zb rfl ?_)
   have: ¬9000 <sizes l:=by omega
   simp only[zbk,h3];simp[this,h60]
end Go.Proofs.YtokfbblhjpfjkaaGreat
namespace Go.Proofs.YtokfbblhjpfjkaaGreat
open Go.Aw Go.RowKit
def zBZ:List (Nat×List Nat):=[(0,[]),(1,[0]),(2,[0,1]),(3,[]),(4,[3]),(5,[3,4]),(6,[0,1,2,3,4,5])]
attribute [local irreducible] WL AC WD WE MStep OkOp
def kidsR(k:Int):Int:=
 if k=1∨k=2∨k=3 then 0 else if k=9∨k=10 then 1 else if k=4∨k=5∨k=6∨k=7∨k=12 then 2 else if k=8∨k=11∨k=13 then 3 else -1
def zU(k i:Int):Int:=if i=1∧(k=4∨k=5∨k=7)then 1 else 0
def inR(n lo hi:Int):Bool:=decide (lo≤n)&&decide (n≤hi)
mutual
def formedT:Tm→Bool
 | .mk k n l=>decide ((l.length:Int)=kidsR k)&&((decide (l.length≠0)||inR n 0 65535)&&(decide (l.length=0)||decide (n=0)))&&zep l
def zep:List Tm→Bool
 |[]=>true
 |t::l=>formedT t&&zep l
end
theorem zmB(l:List Tm):zep l=l.all formedT:=by
 induction l with
 |nil=>rfl
 |cons t l ih=>simp[zep,ih]
def checkT(t:Tm):Int:=if 6000 <t.size then 4 else if 200 <t.depth then 5 else if formedT t=true then 0 else 1
mutual
def zbx:Tm→Int→Int→Bool
 | .mk k n l,v,c=>if k=1 then decide (n <v)else if k=2 then decide (n≤6)else if k=3 then decide (n <c)else zaD k 0 l v c
def zaD:Int→Int→List Tm→Int→Int→Bool
 |_,_,[],_,_=>true
 |k,i,t::l,v,c=>zbx t (v+zU k i) c&&zaD k (i+1) l v c
end
def zcY(t:Tm)(v c:Int):Bool:=decide (0≤v)&&(decide (0≤c)&&(decide (checkT t=0)&&zbx t (if 1048576 <v then 1048576 else v) c))
theorem zaU{l:List Tm}{t:Tm}(h:t∈l):t.depth≤zbW l:=by
 induction l with
 |nil=>cases h
 |cons a l ih=>
  simp only[zbW]
  rcases List.mem_cons.1 h with rfl|h
  ·omega
  ·have:=ih h;omega
theorem zcu(k:Int)(v c:Int)(a b:List Tm): ∀ i:Int,zaD k i (a++b) v c=(zaD k i a v c&&zaD k (i+a.length) b v c):=by
 induction a with
 |nil=>intro i;simp[zaD]
 |cons x a ih=>
  intro i
  simp only[List.cons_append,zaD,ih,Bool.and_assoc,List.length_cons]
  rw[show i+1+(a.length:Int)=i+((a.length+1:Nat):Int) by omega]
theorem zkm(t:Tm)(v c:Int):zbx t v c=if t.kind=1 then decide (t.num <v)else if t.kind=2 then decide (t.num≤6)else if t.kind=3 then decide (t.num <c)else zaD t.kind 0 t.kids v c:=by
 cases t;rw[zbx];rfl
theorem zrs(k:Int):FC Tryz.prog 72 [.int .i64 k] (.int .i64 (kidsR k)):=by
 refine zo hty Tryz.func72 rfl rfl rfl fun w0=>?_
 repeat'(first|refine WL_p hty rfl rfl ?_|refine zh ?_|refine zi ?_|refine za ?_|refine zf ?_|refine zxg ?_|refine zd rfl ?_|refine zbZ rfl ?_|refine zg ?_|refine zj rfl rfl rfl rfl (fun _=>?_) (fun _=>?_))
 all_goals refine zaQ rfl ?_
 all_goals simp only[kidsR];simp_all
theorem zsD(n lo hi:Int):FC Tryz.prog 66 [.int .i64 n,.int .i64 lo,.int .i64 hi] (.bool (inR n lo hi)):=by
 refine zo hty Tryz.func66 rfl rfl rfl fun w0=>?_
 repeat'(first|refine WL_p hty rfl rfl ?_|refine zh ?_|refine zi ?_|refine za ?_|refine zg ?_|refine zx rfl rfl ?_|refine zq rfl rfl rfl ?_|refine zb rfl ?_|refine zj rfl rfl rfl rfl (fun _=>?_) (fun _=>?_))
 all_goals(simp_all [inR] <;>(try intro) <;>omega)
theorem za9(t:Tm):formedT t=(decide ((t.kids.length:Int)=kidsR t.kind)&&((decide (t.kids.length≠0)||inR t.num 0 65535)&&(decide (t.kids.length=0)||decide (t.num=0)))&&t.kids.all formedT):=by
 cases t;rw[formedT,zmB];rfl
set_option maxHeartbeats 4000000 in
theorem zpT: ∀ n,n≤1048576→ ∀ t:Tm,t.size≤n→FC Tryz.prog 45 [aT t] (.bool (formedT t)):=by
 intro n
 induction n with
 |zero=>intro hn t ht;have:=t.size_pos;omega
 |succ n ih=>
 intro hn t ht
 have ih:=ih (by omega)
 have hs:=t.size_eq
 have hlen:=zM t.kids
 have hfe:=za9 t
 refine zo hty Tryz.func45 rfl rfl rfl fun w0=>?_
 repeat'(first|refine zD (id:=1) zBZ rfl (by kernel_rfl) ?_|refine zad 0 rfl (zrs _) rfl rfl rfl ?_|refine zL rfl (zsD _ _ _) rfl (fun _=>?_) (fun _=>?_)|refine zu (.inl ⟨rfl,zI hty rfl rfl⟩) ?_|refine zS ⟨by kernel_rfl,?_⟩|refine WL_p hty rfl rfl ?_|refine zh ?_|refine zi ?_|refine za ?_|refine zf ?_|refine zxg ?_|refine zd rfl ?_|refine zbZ rfl ?_|refine zg ?_|refine zx rfl rfl ?_|refine zq rfl rfl rfl ?_|refine zot rfl rfl rfl ?_|refine zr rfl rfl rfl ?_|refine zb rfl ?_|refine zj rfl rfl rfl rfl (fun _=>?_) (fun _=>?_)|refine zaC rfl rfl rfl rfl (fun _=>?_) (fun _=>?_))
 all_goals(try rw[zeb]at*)
 all_goals first
  |(rw[hfe,eq_comm,Bool.eq_false_iff]
    intro q
    simp only[Bool.and_eq_true,Bool.or_eq_true,decide_eq_true_eq]at q
    obtain⟨⟨q1,q2,q3⟩,q4⟩:=q
    rcases q2 with q2|q2 <;>rcases q3 with q3|q3 <;>first|omega|simp_all)
  |skip
 all_goals
  have hsh:(decide ((t.kids.length:Int)=kidsR t.kind)&&((decide (t.kids.length≠0)||inR t.num 0 65535)&&(decide (t.kids.length=0)||decide (t.num=0))))=true:=by
   simp only[Bool.and_eq_true,Bool.or_eq_true,decide_eq_true_eq]
   refine⟨by omega,?_,?_⟩ <;>first|(left;omega)|(right;omega)|(right;assumption)
  rw[hsh,Bool.true_and]at hfe
  refine zW t.kids.length (fun j=>(t.kids.take j).all formedT=true) (fun j=>⟨envOf [(1,.ptr 1 0),(3,.int .i64 (j:Nat))],bkOf [(1,.box (cT t))]⟩) (zfY ⟨zz rfl rfl,zz rfl rfl,trivial⟩ ⟨zw rfl rfl,trivial⟩) rfl ?_
  intro j hj hI
  repeat'(first|refine WL_p hty rfl rfl ?_|refine zi ?_|refine za ?_)
  refine zj rfl rfl rfl rfl (fun hc=>?_) (fun hc=>?_)
  ·have hlt:j <t.kids.length:=by rw[zeb]at hc;omega
   obtain⟨k,hk,hmem⟩:=zA hlt
   have hks:=zK hmem
   have rk:=zac hk
   repeat'(first|refine zL rfl (ih k (by omega)) rfl (fun _=>?_) (fun _=>?_)|refine WL_p hty rfl rfl ?_|refine zh ?_|refine zi ?_|refine za ?_|refine zf ?_|refine zxg ?_|refine zd rfl ?_|refine zbZ rfl ?_|refine zg ?_|refine WL_m rfl (zm hty rfl rfl rfl (by assumption) rfl) ?_|refine zb rfl ?_)
   ·refine⟨hlt,?_,(zfY ⟨zz rfl rfl,⟨_,rfl,zO ?_ rfl⟩,trivial⟩ ⟨zw rfl rfl,trivial⟩)⟩
    ·rw[List.take_add_one,hk,Option.toList_some,List.all_append,hI];simp[*]
    ·exact congrArg (AV.int .i64) ((zy (by omega) (by omega)).trans (by omega))
   ·rw[hfe]
    exact(List.all_eq_false.2 ⟨k,hmem,by simp[*]⟩).symm
  ·obtain rfl:j=t.kids.length:=by rw[zeb]at hc;omega
   rw[List.take_length]at hI
   repeat'(first|refine WL_p hty rfl rfl ?_|refine zh ?_|refine zi ?_|refine za ?_|refine zbZ rfl ?_|refine zl ?_|refine zg ?_|refine zb rfl ?_)
   rw[hfe,hI]
theorem zmk(t:Tm)(h:t.size≤1048576):FC Tryz.prog 45 [aT t] (.bool (formedT t)):=zpT 1048576 (by omega) t h
theorem zo2(t:Tm)(h:t.size≤1048576):FC Tryz.prog 18 [aT t] (.int .i64 (checkT t)):=by
 refine zo hty Tryz.func18 rfl rfl rfl fun w0=>?_
 repeat'(first|refine zv 0 rfl (zfS t h) rfl rfl rfl ?_|refine zv 0 rfl (zjf t h) rfl rfl rfl ?_|refine zL rfl (zmk t h) rfl (fun _=>?_) (fun _=>?_)|refine WL_p hty rfl rfl ?_|refine zh ?_|refine zi ?_|refine za ?_|refine zxg ?_|refine zd rfl ?_|refine zbZ rfl ?_|refine zg ?_|refine zj rfl rfl rfl rfl (fun _=>?_) (fun _=>?_))
 all_goals refine zaQ rfl ?_
 all_goals unfold checkT
 ·rw[if_pos (by omega)]
 ·rw[if_neg (by omega),if_pos (by omega)]
 ·rw[if_neg (by omega),if_neg (by omega),if_pos (by assumption)]
 ·rw[if_neg (by omega),if_neg (by omega),if_neg (by simp[*])]
end Go.Proofs.YtokfbblhjpfjkaaGreat
namespace Go.Proofs.YtokfbblhjpfjkaaGreat
open Go.Aw Go.RowKit
attribute [local irreducible] WL AC WD WE MStep OkOp
def idxF{α:Type}(p:α→Bool):List α→Int
 |[]=> -1
 |a::l=>if p a=true then 0 else if idxF p l <0 then -1 else idxF p l+1
theorem zcG{α:Type}{p:α→Bool}: ∀ {l:List α},l.any p=false→idxF p l= -1
 |[],_=>rfl
 |a::l,h=>by
  simp only[List.any_cons,Bool.or_eq_false_iff]at h
  simp only[idxF,h.1,zcG h.2];rfl
theorem zdi{α:Type}{p:α→Bool}{a:α}(hp:p a=true): ∀ {l:List α} {j:Nat},(l.take j).any p=false→l[j]? =some a→idxF p l=(j:Nat)
 |[],j,_,h=>by simp at h
 |b::l,0,_,h=>by
  obtain rfl:b=a:=by simpa using h
  simp only[idxF,hp];rfl
 |b::l,j+1,h0,h=>by
  simp only[List.take_succ_cons,List.any_cons,Bool.or_eq_false_iff]at h0
  have:=zdi hp (l:=l) h0.2 (by simpa using h)
  simp only[idxF,h0.1,this]
  rw[if_neg (by decide),if_neg (by omega)];omega
theorem zc6{α:Type}{p:α→Bool}: ∀ {l:List α},0≤idxF p l↔l.any p=true
 |[]=>by simp[idxF]
 |a::l=>by
  have:=zc6 (p:=p) (l:=l)
  simp only[idxF,List.any_cons,Bool.or_eq_true]
  by_cases h:p a=true
  ·rw[if_pos h];exact⟨fun _=>.inl h,fun _=>Int.le_refl _⟩
  ·rw[if_neg h]
   by_cases h2:idxF p l <0
   ·rw[if_pos h2]
    refine⟨fun q=>by omega,fun q=>?_⟩
    have:=this.2 (q.resolve_left h)
    omega
   ·rw[if_neg h2]
    exact⟨fun _=>.inr (this.1 (by omega)),fun _=>by omega⟩
def rsI(l:List Int):List (List AV):=l.map fun x=>[.int .i64 x]
theorem zap(l:List Int):(rsI l).length=l.length:=by rw[rsI,List.length_map]
theorem zd6{l:List Int}{i:Nat}{x:Int}(h:l[i]? =some x):(rsI l)[i]? =some [.int .i64 x]:=by rw[rsI,List.getElem?_map,h];rfl
theorem zpD(l:List Int)(x:Int)(full:Bool)(hl:l.length≤4194304):FC Tryz.prog 190 [.lst 1 (rsI l) full,.int .i64 x] (.int .i64 (idxF (fun y=>decide (x=y)) l)):=by
 refine zo hty Tryz.func190 rfl rfl rfl fun w0=>?_
 repeat'(first|refine WL_p hty rfl rfl ?_|refine zh ?_|refine zi ?_|refine za ?_|refine zf ?_)
 refine zW l.length (fun j=>(l.take j).any (fun y=>decide (x=y))=false) (fun j=>⟨envOf [(0,.lst 1 (rsI l) full),(1,.int .i64 x),(7,.int .i64 ((rsI l).length:Nat)),(8,.int .i64 (j:Nat))],bkOf []⟩)
  (zfY ⟨zz rfl rfl,zz rfl rfl,zz rfl rfl,zz rfl rfl,trivial⟩ trivial) rfl ?_
 intro j hj hI
 repeat'(first|refine zi ?_|refine za ?_)
 refine zj rfl rfl rfl rfl (fun hc=>?_) (fun hc=>?_)
 ·have hlt:j <l.length:=by rw[zap]at hc;omega
  obtain⟨k,hk,hmem⟩:=zA hlt
  have rk:=zd6 hk
  repeat'(first|refine WL_p hty rfl rfl ?_|refine zh ?_|refine zi ?_|refine za ?_|refine zf ?_|refine zxg ?_|refine zd rfl ?_|refine zbZ rfl ?_|refine zg ?_|refine WL_m rfl (zm hty rfl rfl rfl (by assumption) rfl) ?_|refine zj rfl rfl rfl rfl (fun _=>?_) (fun _=>?_))
  ·rename_i hx
   exact zaQ rfl (zdi (by simp[hx]) hI hk).symm
  ·rename_i hx
   refine⟨hlt,?_,(zfY ⟨zz rfl rfl,zz rfl rfl,zz rfl rfl,⟨_,rfl,zO ?_ rfl⟩,trivial⟩ trivial)⟩
   ·rw[zaA hk,hI];simp[hx]
   ·exact congrArg (AV.int .i64) ((zy (by omega) (by omega)).trans (by omega))
 ·obtain rfl:j=l.length:=by rw[zap]at hc;omega
  rw[List.take_length]at hI
  repeat'(first|refine WL_p hty rfl rfl ?_|refine zh ?_|refine zi ?_|refine za ?_|refine zbZ rfl ?_|refine zl ?_|refine zg ?_)
  exact zaQ rfl (zcG hI).symm
theorem zkv(l:List Int)(x:Int)(full:Bool)(hl:l.length≤4194304):FC Tryz.prog 140 [.lst 1 (rsI l) full,.int .i64 x] (.bool (l.any fun y=>decide (x=y))):=by
 refine zo hty Tryz.func140 rfl rfl rfl fun w0=>?_
 repeat'(first|refine zv 0 rfl (zpD l x full hl) rfl rfl rfl ?_|refine WL_p hty rfl rfl ?_|refine zh ?_|refine zi ?_|refine za ?_|refine zg ?_|refine zb rfl ?_|refine zj rfl rfl rfl rfl (fun _=>?_) (fun _=>?_))
 ·exact(zc6.1 ‹_›).symm
 ·rename_i h
  rw[eq_comm,Bool.eq_false_iff]
  exact fun q=>h (zc6.2 q)
theorem zcB(k i:Int):FC Tryz.prog 100 [.int .i64 k,.int .i64 i] (.int .i64 (zU k i)):=by
 have hc:=zkv [4,5,7] k true (by decide)
 refine zo hty Tryz.func100 rfl rfl rfl fun w0=>?_
 repeat'(first|refine zL rfl hc rfl (fun _=>?_) (fun _=>?_)|refine WL_p hty rfl rfl ?_|refine zh ?_|refine zi ?_|refine za ?_|refine zxg ?_|refine zd rfl ?_|refine zbZ rfl ?_|refine zg ?_|refine zx rfl rfl ?_|refine zq rfl rfl rfl ?_|refine zj rfl rfl rfl rfl (fun _=>?_) (fun _=>?_))
 all_goals refine zaQ rfl ?_
 all_goals simp only[zU];simp_all
theorem ztr(k:Int):FC Tryz.prog 156 [.int .i64 k] (.bool (inR k 1 13)):=by
 refine zo hty Tryz.func156 rfl rfl rfl fun w0=>?_
 repeat'(first|refine WL_p hty rfl rfl ?_|refine zh ?_|refine zi ?_|refine za ?_|refine zg ?_|refine zx rfl rfl ?_|refine zq rfl rfl rfl ?_|refine zb rfl ?_|refine zj rfl rfl rfl rfl (fun _=>?_) (fun _=>?_))
 all_goals(simp_all [inR] <;>(try intro) <;>omega)
theorem zpF(k:Int):FC Tryz.prog 117 [.int .i64 k] (.int .i64 (kidsR k)):=by
 refine zo hty Tryz.func117 rfl rfl rfl fun w0=>?_
 repeat'(first|refine zL rfl (ztr k) rfl (fun _=>?_) (fun _=>?_)|refine WL_p hty rfl rfl ?_|refine zh ?_|refine zi ?_|refine za ?_|refine zf ?_|refine zxg ?_|refine zd rfl ?_|refine zbZ rfl ?_|refine zg ?_|refine zj rfl rfl rfl rfl (fun _=>?_) (fun _=>?_))
 all_goals refine zaQ rfl ?_
 all_goals simp only[kidsR]
 all_goals first
  |(simp_all;done)
  |(rename_i hq;simp only[inR,Bool.and_eq_true,decide_eq_true_eq,Bool.and_eq_false_iff,decide_eq_false_iff_not]at hq;repeat' split <;>omega)
theorem zrm: ∀ n,n≤4194304→ ∀ t:Tm,t.size≤n→FC Tryz.prog 76 [aT t] (.int .i64 (t.size:Nat)):=by
 intro n
 induction n with
 |zero=>intro hn t ht;have:=t.size_pos;omega
 |succ n ih=>
 intro hn t ht
 have ih:=ih (by omega)
 have hs:=t.size_eq
 have hlen:=zM t.kids
 refine zo hty Tryz.func76 rfl rfl rfl fun w0=>?_
 repeat'(first|refine WL_p hty rfl rfl ?_|refine zh ?_|refine zi ?_|refine za ?_|refine zf ?_)
 refine zW t.kids.length (fun _=>True) (fun j=>⟨envOf [(1,.ptr 1 0),(3,.int .i64 ((1+sizes (t.kids.take j):Nat):Int)),(7,sT t.kids),(8,.int .i64 ((rsT t.kids).length:Nat)),(9,.int .i64 (j:Nat))],bkOf [(1,.box (cT t))]⟩)
  (zfY ⟨zz rfl rfl,zz rfl rfl,zz rfl rfl,zz rfl rfl,zz rfl rfl,trivial⟩ ⟨zw rfl rfl,trivial⟩) trivial ?_
 intro j hj _
 repeat'(first|refine zi ?_|refine za ?_)
 refine zj rfl rfl rfl rfl (fun hc=>?_) (fun hc=>?_)
 ·have hlt:j <t.kids.length:=by rw[zeb]at hc;omega
  obtain⟨k,hk,hmem⟩:=zA hlt
  have hks:=zK hmem
  have htk:=zb1 t.kids (j+1)
  have hts:=zdp hk
  have rk:=zac hk
  repeat'(first|refine zv 0 rfl (ih k (by omega)) rfl rfl rfl ?_|refine WL_p hty rfl rfl ?_|refine zh ?_|refine zi ?_|refine za ?_|refine zf ?_|refine zxg ?_|refine zd rfl ?_|refine WL_m rfl (zm hty rfl rfl rfl (by assumption) rfl) ?_)
  refine⟨hlt,trivial,(zfY ⟨zz rfl rfl,⟨_,rfl,zO ?_ rfl⟩,zz rfl rfl,zz rfl rfl,⟨_,rfl,zO ?_ rfl⟩,trivial⟩ ⟨zw rfl rfl,trivial⟩)⟩
  ·exact congrArg (AV.int .i64) ((zy (by omega) (by omega)).trans (by omega))
  ·exact congrArg (AV.int .i64) ((zy (by omega) (by omega)).trans (by omega))
 ·obtain rfl:j=t.kids.length:=by rw[zeb]at hc;omega
  repeat'(first|refine WL_p hty rfl rfl ?_|refine zh ?_|refine zi ?_|refine za ?_|refine zbZ rfl ?_|refine zl ?_|refine zg ?_)
  refine zaQ rfl ?_
  rw[List.take_length];omega
theorem zgJ(t:Tm)(h:t.size≤4194304):FC Tryz.prog 76 [aT t] (.int .i64 (t.size:Nat)):=zrm 4194304 (by omega) t h
theorem zoA: ∀ n,n≤4194304→ ∀ t:Tm,t.size≤n→FC Tryz.prog 77 [aT t] (.int .i64 (t.depth:Nat)):=by
 intro n
 induction n with
 |zero=>intro hn t ht;have:=t.size_pos;omega
 |succ n ih=>
 intro hn t ht
 have ih:=ih (by omega)
 have hs:=t.size_eq
 have hlen:=zM t.kids
 refine zo hty Tryz.func77 rfl rfl rfl fun w0=>?_
 repeat'(first|refine WL_p hty rfl rfl ?_|refine zh ?_|refine zi ?_|refine za ?_|refine zf ?_)
 refine zW t.kids.length (fun _=>True) (fun j=>⟨envOf [(1,.ptr 1 0),(3,.int .i64 ((zbW (t.kids.take j):Nat):Int)),(7,sT t.kids),(8,.int .i64 ((rsT t.kids).length:Nat)),(9,.int .i64 (j:Nat))],bkOf [(1,.box (cT t))]⟩)
  (zfY ⟨zz rfl rfl,zz rfl rfl,zz rfl rfl,zz rfl rfl,zz rfl rfl,trivial⟩ ⟨zw rfl rfl,trivial⟩) trivial ?_
 intro j hj _
 repeat'(first|refine zi ?_|refine za ?_)
 refine zj rfl rfl rfl rfl (fun hc=>?_) (fun hc=>?_)
 ·have hlt:j <t.kids.length:=by rw[zeb]at hc;omega
  obtain⟨k,hk,hmem⟩:=zA hlt
  have hks:=zK hmem
  have hts:=zet hk
  have rk:=zac hk
  repeat'(first|refine zv 0 rfl (ih k (by omega)) rfl rfl rfl ?_|refine WL_m rfl (zey rfl rfl rfl) ?_|refine WL_p hty rfl rfl ?_|refine zh ?_|refine zi ?_|refine za ?_|refine zf ?_|refine zxg ?_|refine zd rfl ?_|refine WL_m rfl (zm hty rfl rfl rfl (by assumption) rfl) ?_)
  refine⟨hlt,trivial,(zfY ⟨zz rfl rfl,⟨_,rfl,zO ?_ rfl⟩,zz rfl rfl,zz rfl rfl,⟨_,rfl,zO ?_ rfl⟩,trivial⟩ ⟨zw rfl rfl,trivial⟩)⟩
  ·refine congrArg (AV.int .i64) ?_
   rw[hts];split <;>omega
  ·exact congrArg (AV.int .i64) ((zy (by omega) (by omega)).trans (by omega))
 ·obtain rfl:j=t.kids.length:=by rw[zeb]at hc;omega
  have hd:=t.depth_le
  have he:=t.depth_eq
  repeat'(first|refine WL_p hty rfl rfl ?_|refine zh ?_|refine zi ?_|refine za ?_|refine zbZ rfl ?_|refine zl ?_|refine zg ?_)
  refine zaQ rfl ?_
  rw[List.take_length]
  exact(zy (by omega) (by omega)).trans (by omega)
theorem zfO(t:Tm)(h:t.size≤4194304):FC Tryz.prog 77 [aT t] (.int .i64 (t.depth:Nat)):=zoA 4194304 (by omega) t h
theorem zjS(g:Nat)(xa:List AV)(hxa:xa.all zai=true)(p:Tm→Bool)(l:List Tm)(hl:sizes l≤4194304)(h: ∀ t,t∈l→FC Tryz.prog g ([aT t]++xa) (.bool (p t))):
 FC Tryz.prog 157 [sT l,.fn (.func g) [] xa] (.int .i64 (idxF p l)):=by
 have hlen:=zM l
 refine zo hty Tryz.func157 rfl rfl rfl fun w0=>?_
 repeat'(first|refine WL_p hty rfl rfl ?_|refine zh ?_|refine zi ?_|refine za ?_|refine zf ?_)
 refine zW l.length (fun j=>(l.take j).any p=false) (fun j=>⟨envOf [(0,sT l),(1,.fn (.func g) [] xa),(7,.int .i64 ((rsT l).length:Nat)),(8,.int .i64 (j:Nat))],bkOf []⟩)
  (zfY ⟨zz rfl rfl,⟨_,rfl,.inr ⟨_,?_,.refl _⟩⟩,zz rfl rfl,zz rfl rfl,trivial⟩ trivial) rfl ?_
 ·simp only[argV,argS,zaj,hxa];rfl
 intro j hj hI
 repeat'(first|refine zi ?_|refine za ?_)
 refine zj rfl rfl rfl rfl (fun hc=>?_) (fun hc=>?_)
 ·have hlt:j <l.length:=by rw[zeb]at hc;omega
  obtain⟨k,hk,hmem⟩:=zA hlt
  have rk:=zac hk
  repeat'(first|refine zcT rfl (by simp[hxa]) rfl (h k hmem) rfl (fun _=>?_) (fun _=>?_)|refine WL_p hty rfl rfl ?_|refine zh ?_|refine zi ?_|refine za ?_|refine zf ?_|refine zxg ?_|refine zd rfl ?_|refine zbZ rfl ?_|refine zg ?_|refine WL_m rfl (zm hty rfl rfl rfl (by assumption) rfl) ?_)
  ·exact zaQ rfl (zdi ‹_› hI hk).symm
  ·refine⟨hlt,?_,(zfY ⟨zz rfl rfl,⟨_,rfl,.inr ⟨_,?_,.refl _⟩⟩,zz rfl rfl,⟨_,rfl,zO ?_ rfl⟩,trivial⟩ trivial)⟩
   ·rw[zaA hk,hI];simp[*]
   ·simp only[argV,argS,zaj,hxa];rfl
   ·exact congrArg (AV.int .i64) ((zy (by omega) (by omega)).trans (by omega))
 ·obtain rfl:j=l.length:=by rw[zeb]at hc;omega
  rw[List.take_length]at hI
  repeat'(first|refine WL_p hty rfl rfl ?_|refine zh ?_|refine zi ?_|refine za ?_|refine zbZ rfl ?_|refine zl ?_|refine zg ?_)
  exact zaQ rfl (zcG hI).symm
theorem zcI(g:Nat)(xa:List AV)(hxa:xa.all zai=true)(p:Tm→Bool)(l:List Tm)(hl:sizes l≤4194304)(h: ∀ t,t∈l→FC Tryz.prog g ([aT t]++xa) (.bool (p t))):
 FC Tryz.prog 118 [sT l,.fn (.func g) [] xa] (.bool (l.any p)):=by
 have hq:=zjS g xa hxa p l hl h
 refine zo hty Tryz.func118 rfl rfl rfl fun w0=>?_
 have he: ∀ s:AS,evO s (.tmp 5)=some (sT l)→evO s (.tmp 6)=some (.fn (.func g) [] xa)→za4 s [.tmp 5,.tmp 6]=some [sT l,.fn (.func g) [] xa]:=by
  intro s h1 h2
  simp only[za4,h1,h2,argV,argS,zaj,zai,hxa];rfl
 repeat'(first|refine zv 0 (he _ rfl rfl) hq rfl rfl rfl ?_|refine WL_p hty rfl rfl ?_|refine zh ?_|refine zi ?_|refine za ?_|refine zg ?_|refine zb rfl ?_|refine zj rfl rfl rfl rfl (fun _=>?_) (fun _=>?_))
 ·exact(zc6.1 ‹_›).symm
 ·rename_i h
  rw[eq_comm,Bool.eq_false_iff]
  exact fun q=>h (zc6.2 q)
end Go.Proofs.YtokfbblhjpfjkaaGreat
namespace Go.Proofs.YtokfbblhjpfjkaaGreat
open Go.Aw Go.RowKit
def zBC:List (Nat×List Nat):=[(0,[]),(1,[]),(2,[]),(3,[]),(4,[]),(5,[4]),(6,[]),(7,[4,5,6]),(8,[3,4,5,6,7]),(9,[]),(10,[2,3,4,5,6,7,8,9]),(11,[0,1,2,3,4,5,6,7,8,9,10]),(12,[0,1,2,3,4,5,6,7,8,9,10,11])]
attribute [local irreducible] WL AC WD WE MStep OkOp
theorem zbD{α:Type}(p:α→Bool)(l:List α):l.all p= !(l.any fun k=> !p k):=by
 induction l with
 |nil=>rfl
 |cons a l ih=>simp only[List.all_cons,List.any_cons,Bool.not_or,Bool.not_not,ih]
theorem zlF(n:Nat)(hn:n≤4194304)(ih: ∀ t:Tm,t.size≤n→FC Tryz.prog 78 [aT t] (.bool (formedT t)))(t:Tm)(ht:t.size≤n+1)(ht2:t.size≤4194304):FC Tryz.prog 78 [aT t] (.bool (formedT t)):=by
 have hs:=t.size_eq
 have hlen:=zM t.kids
 have hfe:=za9 t
 have h1: ∀ k:Tm,k.size≤n→FC Tryz.prog 119 [aT k] (.bool (!formedT k)):=by
  intro k hk
  refine zo hty Tryz.func119 rfl rfl rfl fun w0=>?_
  repeat'(first|refine zL rfl (ih k hk) rfl (fun _=>?_) (fun _=>?_)|refine WL_p hty rfl rfl ?_|refine zh ?_|refine zi ?_|refine za ?_|refine zg ?_|refine zb rfl ?_)
  all_goals simp[*]
 have hcf:=zcI 119 [] rfl (fun k=> !formedT k) t.kids (by omega) (fun k hk=>h1 k (by have:=zK hk;omega))
 refine zo hty Tryz.func78 rfl rfl rfl fun w0=>?_
 repeat'(first|refine zv 0 rfl (zpF _) rfl rfl rfl ?_|refine zL rfl hcf rfl (fun _=>?_) (fun _=>?_)|refine WL_p hty rfl rfl ?_|refine zh ?_|refine zi ?_|refine za ?_|refine zxg ?_|refine zd rfl ?_|refine zbZ rfl ?_|refine zg ?_|refine zx rfl rfl ?_|refine zq rfl rfl rfl ?_|refine zot rfl rfl rfl ?_|refine zr rfl rfl rfl ?_|refine zb rfl ?_|refine zj rfl rfl rfl rfl (fun _=>?_) (fun _=>?_))
 all_goals(try rw[zeb]at*)
 all_goals first
  |(rw[hfe,eq_comm,Bool.eq_false_iff]
    intro q
    simp only[Bool.and_eq_true,Bool.or_eq_true,decide_eq_true_eq,inR]at q
    obtain⟨⟨q1,q2,q3⟩,q4⟩:=q
    rcases q2 with q2|q2 <;>rcases q3 with q3|q3 <;>first|omega|simp_all)
  |skip
 all_goals
  have hsh:(decide ((t.kids.length:Int)=kidsR t.kind)&&((decide (t.kids.length≠0)||inR t.num 0 65535)&&(decide (t.kids.length=0)||decide (t.num=0))))=true:=by
   simp only[Bool.and_eq_true,Bool.or_eq_true,decide_eq_true_eq,inR]
   refine⟨by omega,?_,?_⟩ <;>first|(left;omega)|(right;omega)|(right;assumption)
  rw[hsh,Bool.true_and]at hfe
  rw[hfe]
  rename_i hq
  rw[zbD,hq]
theorem zoe: ∀ n,n≤4194304→ ∀ t:Tm,t.size≤n→FC Tryz.prog 78 [aT t] (.bool (formedT t)):=by
 intro n
 induction n with
 |zero=>intro hn t ht;have:=t.size_pos;omega
 |succ n ih=>exact fun hn t ht=>zlF n (by omega) (ih (by omega)) t ht (by omega)
theorem zmq(t:Tm)(h:t.size≤4194304):FC Tryz.prog 78 [aT t] (.bool (formedT t)):=zoe 4194304 (by omega) t h
theorem zl2(t:Tm)(h:t.size≤4194304):FC Tryz.prog 47 [aT t] (.int .i64 (checkT t)):=by
 refine zo hty Tryz.func47 rfl rfl rfl fun w0=>?_
 repeat'(first|refine zv 0 rfl (zgJ t h) rfl rfl rfl ?_|refine zv 0 rfl (zfO t h) rfl rfl rfl ?_|refine zL rfl (zmq t h) rfl (fun _=>?_) (fun _=>?_)|refine WL_p hty rfl rfl ?_|refine zh ?_|refine zi ?_|refine za ?_|refine zf ?_|refine zxg ?_|refine zd rfl ?_|refine zbZ rfl ?_|refine zg ?_|refine zj rfl rfl rfl rfl (fun _=>?_) (fun _=>?_))
 all_goals refine zaQ rfl ?_
 all_goals unfold checkT
 ·rw[if_pos (by omega)]
 ·rw[if_neg (by omega),if_pos (by omega)]
 ·rw[if_neg (by omega),if_neg (by omega),if_pos (by assumption)]
 ·rw[if_neg (by omega),if_neg (by omega),if_neg (by simp[*])]
theorem zb2(t:Tm)(h:t.size≤1048576):FC Tryz.prog 47 [aT t] (.int .i64 (checkT t)):=zl2 t (by omega)
theorem ziL(n:Int):FC Tryz.prog 65 [.int .i64 n] (aT (.mk 1 n [])):=by
 refine zo hty Tryz.func65 rfl rfl rfl fun w0=>?_
 repeat'(first|refine WL_p hty rfl rfl ?_|refine zh ?_|refine zi ?_|refine za ?_|refine zg ?_)
 refine zH rfl rfl (.agg ?_)
 repeat'(first|exact Wks.nil|refine Wks.cons (Wk.refl _) ?_|refine Wks.cons (Wk.full _ _ _) ?_)
theorem zdZ(k:Int)(l:List Tm):FC Tryz.prog 124 [.int .i64 k,sT l] (aT (.mk k 0 l)):=by
 refine zo hty Tryz.func124 rfl rfl rfl fun w0=>?_
 repeat'(first|refine WL_p hty rfl rfl ?_|refine zh ?_|refine zi ?_|refine za ?_|refine zg ?_)
 refine zH rfl rfl (.agg ?_)
 repeat'(first|exact Wks.nil|refine Wks.cons (Wk.refl _) ?_)
theorem zeD{t:Tm}(h:checkT t=0):formedT t=true:=by
 unfold checkT at h
 split at h
 ·omega
 ·split at h
  ·omega
  ·split at h
   ·assumption
   ·omega
mutual
def zeF(F:Int→Int→Tm):Int→Tm→Tm
 |b,.mk k n l=>if k=1 then F n b else .mk k n (mapTs F k b 0 l)
def mapTs(F:Int→Int→Tm):Int→Int→Int→List Tm→List Tm
 |_,_,_,[]=>[]
 |k,b,i,t::l=>zeF F (b+zU k i) t::mapTs F k b (i+1) l
end
theorem zqX(F:Int→Int→Tm)(b:Int)(t:Tm):zeF F b t=if t.kind=1 then F t.num b else .mk t.kind t.num (mapTs F t.kind b 0 t.kids):=by cases t;rw[zeF];rfl
theorem zhp(F:Int→Int→Tm)(k b:Int)(r:List Tm): ∀ (l:List Tm) (i:Int),mapTs F k b i (l++r)=mapTs F k b i l++mapTs F k b (i+l.length) r
 |[],i=>by simp[mapTs]
 |t::l,i=>by
  simp only[List.cons_append,mapTs,zhp F k b r l,List.length_cons]
  rw[show i+1+(l.length:Int)=i+((l.length+1:Nat):Int) by omega]
theorem zcL(F:Int→Int→Tm)(k b:Int): ∀ (l:List Tm) (i:Int),(mapTs F k b i l).length=l.length
 |[],_=>rfl
 |t::l,i=>by simp only[mapTs,List.length_cons,zcL]
theorem zjW(F:Int→Int→Tm)(k b:Int){l:List Tm}{j:Nat}{t:Tm}(h:l[j]? =some t):mapTs F k b 0 (l.take (j+1))=mapTs F k b 0 (l.take j)++[zeF F (b+zU k j) t]:=by
 have hlt:j <l.length:=(List.getElem?_eq_some_iff.1 h).1
 have h1:(l.take j).length=j:=by rw[List.length_take];omega
 rw[List.take_add_one,h,Option.toList_some,zhp,h1,Int.zero_add]
 rfl
theorem zao{t k:Tm}(h:formedT t=true)(hk:k∈t.kids):formedT k=true:=by
 rw[za9]at h
 simp only[Bool.and_eq_true]at h
 exact List.all_eq_true.1 h.2 k hk
theorem zdk{t:Tm}(h:formedT t=true)(hk:t.kind=1):0≤t.num∧t.num≤65535:=by
 rw[za9,hk]at h
 simp only[Bool.and_eq_true,Bool.or_eq_true,decide_eq_true_eq,inR]at h
 obtain⟨⟨h1,h2,_⟩,_⟩:=h
 rcases h2 with h2|h2
 ·simp only[kidsR]at h1;simp at h1;omega
 ·exact h2
set_option maxHeartbeats 4000000 in
theorem ztQ(g:Nat)(xa:List AV)(hxa:xa.all zai=true)(F:Int→Int→Tm)(M:Int)(hM:M≤4194304)(hF: ∀ n b,0≤n→n≤65535→0≤b→b≤M→FC Tryz.prog g ([.int .i64 n,.int .i64 b]++xa) (aT (F n b))):
 ∀ n,n≤1048576→ ∀ (t:Tm) (b:Int),t.size≤n→formedT t=true→0≤b→b+t.depth≤M+1→FC Tryz.prog 63 [aT t,.int .i64 b,.fn (.func g) [] xa] (aT (zeF F b t)):=by
 intro n
 induction n with
 |zero=>intro hn t b ht;have:=t.size_pos;omega
 |succ n ih=>
 intro hn t b ht hfm hb0 hbM
 have ih:=ih (by omega)
 have hs:=t.size_eq
 have hdp:=t.depth_eq
 have hlen:=zM t.kids
 have hme:=zqX F b t
 refine zo hty Tryz.func63 rfl rfl rfl fun w0=>?_
 have hcl:zaj (.fn (.func g) [] xa)=true:=by simp only[zaj,hxa];rfl
 have hca: ∀ blk:Bk,argV blk (.fn (.func g) [] xa)=some (.fn (.func g) [] xa):=by intro blk;simp only[argV,argS,hcl]
 repeat'(first|refine WL_m rfl (zct 0 rfl (by simp[hxa]) rfl (hF t.num b (zdk hfm ‹_›).1 (zdk hfm ‹_›).2 hb0 (by omega)) rfl rfl rfl) ?_|refine WL_m rfl (zee hty 10 rfl rfl rfl rfl rfl (by rw[zeb];omega) rfl rfl rfl) ?_|refine WL_p hty rfl rfl ?_|refine zh ?_|refine zi ?_|refine za ?_|refine zf ?_|refine zxg ?_|refine zd rfl ?_|refine zbZ rfl ?_|refine zg ?_|refine zj rfl rfl rfl rfl (fun _=>?_) (fun _=>?_))
 ·rw[hme,if_pos ‹_›]
  exact zH rfl rfl (.refl _)
 ·rename_i h1 h2
  rw[zeb]at h2
  have h3:t.kids=[]:=List.length_eq_zero_iff.1 (by omega)
  rw[hme,if_neg ‹_›,h3]
  refine zH rfl rfl (.agg ?_)
  repeat'(first|exact Wks.nil|refine Wks.cons (Wk.refl _) ?_|refine Wks.cons (Wk.nilF _ _ _) ?_)
 rename_i h1 h2
 rw[zeb]at h2
 rw[if_neg h1]at hme
 refine zW t.kids.length (fun _=>True) (fun j=>⟨envOf [(1,.int .i64 b),(2,.fn (.func g) [] xa),(3,.ptr 3 0),(6,.ptr 6 0),(7,.arr 10),(29,sT t.kids),(30,.int .i64 ((rsT t.kids).length:Nat)),(31,.int .i64 (j:Nat))],
  bkOf [(3,.box (cT t)),(6,.box [.int .i64 0,.int .i64 0,.lst 3 [] true]),(10,.arr 25 3 (rsT (mapTs F t.kind b 0 (t.kids.take j))++List.replicate ((rsT t.kids).length-j) [.int .i64 0,.int .i64 0,.lst 3 [] true]) true)]⟩)
  (zfY ⟨zz rfl rfl,⟨_,rfl,.inl ⟨.refl _,za0 hcl⟩⟩,zz rfl rfl,zz rfl rfl,zz rfl rfl,zz rfl rfl,zz rfl rfl,zz rfl rfl,trivial⟩ ⟨zw rfl rfl,zw rfl rfl,zw rfl rfl,trivial⟩) trivial ?_
 intro j hj _
 repeat'(first|refine zi ?_|refine za ?_)
 refine zj rfl rfl rfl rfl (fun hc=>?_) (fun hc=>?_)
 ·have hlt:j <t.kids.length:=by rw[zeb]at hc;omega
  obtain⟨k,hk,hmem⟩:=zA hlt
  have hks:=zK hmem
  have hkd:=zaU hmem
  have rk:=zac hk
  have hbi:0≤zU t.kind (j:Nat)∧zU t.kind (j:Nat)≤1:=by unfold zU;split <;>omega
  have hwr:IntKind.i64.wrap (b+zU t.kind (j:Nat))=b+zU t.kind (j:Nat):=zy (n:=b+zU t.kind (j:Nat)) (by omega) (by omega)
  have hkc:=ih k (b+zU t.kind (j:Nat)) (by omega) (zao hfm hmem) (by omega) (by omega)
  rw[←hwr]at hkc
  have htl:(rsT (mapTs F t.kind b 0 (t.kids.take j))).length=j:=by rw[zeb,zcL,List.length_take];omega
  have hg:=zhs (z:=([.int .i64 0,.int .i64 0,.lst 3 [] true]:List AV)) (n:=(rsT t.kids).length) htl (by rw[zeb];exact hlt)
  have he: ∀ (s:AS) (v c:AV),evO s (.tmp 38)=some v→argV s.blk v=some v→evO s (.tmp 44)=some c→argV s.blk c=some c→evO s (.tmp 45)=some (.fn (.func g) [] xa)→za4 s [.tmp 38,.tmp 44,.tmp 45]=some [v,c,.fn (.func g) [] xa]:=by
   intro s v c e1 e2 e3 e4 e5
   simp only[za4,e1,e2,e3,e4,e5,hca]
  repeat'(first|refine zD (id:=10) zBC rfl (by kernel_rfl) ?_|refine zu (.inl ⟨rfl,zar 0 rfl (zcB _ _) rfl rfl rfl⟩) ?_|refine zu (.inl ⟨rfl,zar 0 (he _ _ _ rfl rfl rfl rfl rfl) hkc rfl rfl rfl⟩) ?_|refine zu (.inl ⟨rfl,zgs hty rfl rfl rfl rfl rfl (Int.natCast_nonneg _) (by simp[zeb,zcL];omega) rfl⟩) ?_|refine zu (.inl ⟨rfl,zdK hty rfl rfl rfl rfl hg rfl rfl rfl rfl rfl⟩) ?_|refine zu (.inl ⟨rfl,zI hty rfl rfl⟩) ?_|refine zS ⟨by kernel_rfl,?_⟩|refine WL_p hty rfl rfl ?_|refine zh ?_|refine zi ?_|refine za ?_|refine zf ?_|refine zxg ?_|refine zd rfl ?_|refine WL_m rfl (zm hty rfl rfl rfl (by assumption) rfl) ?_)
  refine⟨hlt,trivial,(zfY ⟨zz rfl rfl,⟨_,rfl,.inl ⟨.refl _,za0 hcl⟩⟩,zz rfl rfl,zz rfl rfl,zz rfl rfl,zz rfl rfl,zz rfl rfl,⟨_,rfl,zO ?_ rfl⟩,trivial⟩ ⟨zw rfl rfl,zw rfl rfl,?_,trivial⟩)⟩
  ·exact congrArg (AV.int .i64) ((zy (by omega) (by omega)).trans (by omega))
  ·refine⟨⟨_,rfl,.of_eq (congrArg (fun r=>AB.arr 25 3 r true) ?_)⟩,rfl⟩
   rw[hwr]
   refine(zhy htl (by rw[zeb];exact hlt)).trans ?_
   rw[zjW F t.kind b hk,zas,rs1]
   rfl
 ·obtain rfl:j=t.kids.length:=by rw[zeb]at hc;omega
  repeat'(first|refine WL_p hty rfl rfl ?_|refine zh ?_|refine zi ?_|refine za ?_|refine zbZ rfl ?_|refine zl ?_|refine zg ?_)
  refine zbm (zaF 10 rfl) ?_
  refine zH rfl rfl (.of_eq ?_)
  rw[hme,List.take_length,zeb,Nat.sub_self]
  exact congrArg (fun r=>AV.agg [.int .i64 t.kind,.int .i64 t.num,.lst 3 r false]) (List.append_nil _)
theorem znF(g:Nat)(xa:List AV)(hxa:xa.all zai=true)(F:Int→Int→Tm)(M:Int)(hM:M≤4194304)(hF: ∀ n b,0≤n→n≤65535→0≤b→b≤M→FC Tryz.prog g ([.int .i64 n,.int .i64 b]++xa) (aT (F n b)))
 (t:Tm) (b:Int) (hs:t.size≤1048576) (hfm:formedT t=true) (hb:0≤b) (hd:b+t.depth≤M+1):FC Tryz.prog 63 [aT t,.int .i64 b,.fn (.func g) [] xa] (aT (zeF F b t)):=
 ztQ g xa hxa F M hM hF 1048576 (by omega) t b hs hfm hb hd
end Go.Proofs.YtokfbblhjpfjkaaGreat
namespace Go.Proofs.YtokfbblhjpfjkaaGreat
open Go.Aw Go.RowKit
attribute [local irreducible] WL AC WD WE MStep OkOp
theorem zk6(n:Nat)(ihs: ∀ l:List Tm,sizes l≤n→FC Tryz.prog 97 [sT l] (sT l))(t:Tm)(h:t.size≤n+1):FC Tryz.prog 57 [aT t] (aT t):=by
 have hs:=t.size_eq
 refine zo hty Tryz.func57 rfl rfl rfl fun w0=>?_
 repeat'(first|refine zv 0 rfl (ihs _ (by omega)) rfl rfl rfl ?_|refine WL_p hty rfl rfl ?_|refine zh ?_|refine zi ?_|refine za ?_|refine zg ?_)
 exact zdC rfl rfl rfl
theorem ziT(n:Nat)(hn:n≤1048576)(ih: ∀ t:Tm,t.size≤n→FC Tryz.prog 57 [aT t] (aT t))(l:List Tm)(h:sizes l≤n):FC Tryz.prog 97 [sT l] (sT l):=by
 have hlen:=zM l
 refine zo hty Tryz.func97 rfl rfl rfl fun w0=>?_
 repeat'(first|refine WL_m rfl (zee hty 10 rfl rfl rfl rfl rfl (by rw[zeb];omega) rfl rfl rfl) ?_|refine WL_p hty rfl rfl ?_|refine zh ?_|refine zi ?_|refine za ?_|refine zf ?_|refine zxg ?_|refine zd rfl ?_|refine zbZ rfl ?_|refine zg ?_|refine zj rfl rfl rfl rfl (fun _=>?_) (fun _=>?_))
 ·rename_i hc
  rw[zeb]at hc
  have:l=[]:=List.length_eq_zero_iff.1 (by omega)
  subst this
  exact zH rfl rfl (.nilF _ _ _)
 refine zW l.length (fun _=>True) (fun j=>⟨envOf [(0,sT l),(3,.arr 10),(12,.int .i64 ((rsT l).length:Nat)),(13,.int .i64 (j:Nat))],bkOf [(10,.arr 25 3 (rsT (l.take j)++List.replicate ((rsT l).length-j) [.int .i64 0,.int .i64 0,.lst 3 [] true]) true)]⟩)
  (zfY ⟨zz rfl rfl,zz rfl rfl,zz rfl rfl,zz rfl rfl,trivial⟩ ⟨?_,trivial⟩) trivial ?_
 ·exact⟨⟨_,rfl,.refl _⟩,rfl⟩
 intro j hj _
 repeat'(first|refine zi ?_|refine za ?_)
 refine zj rfl rfl rfl rfl (fun hc=>?_) (fun hc=>?_)
 ·have hlt:j <l.length:=by rw[zeb]at hc;omega
  obtain⟨k,hk,hmem⟩:=zA hlt
  have hks:=zK hmem
  have rk:=zac hk
  have htl:(rsT (l.take j)).length=j:=by rw[zeb,List.length_take];omega
  have hg:=zhs (z:=([.int .i64 0,.int .i64 0,.lst 3 [] true]:List AV)) (n:=(rsT l).length) htl (by rw[zeb];exact hlt)
  repeat'(first|refine zv 0 rfl (ih k (by omega)) rfl rfl rfl ?_|refine WL_m rfl (zgs hty rfl rfl rfl rfl rfl (Int.natCast_nonneg _) (by simp[zeb];omega) rfl) ?_|refine WL_m rfl (zdK hty rfl rfl rfl rfl hg rfl rfl rfl rfl rfl) ?_|refine WL_p hty rfl rfl ?_|refine zh ?_|refine zi ?_|refine za ?_|refine zf ?_|refine zxg ?_|refine zd rfl ?_|refine WL_m rfl (zm hty rfl rfl rfl (by assumption) rfl) ?_)
  refine⟨hlt,trivial,(zfY ⟨zz rfl rfl,zz rfl rfl,zz rfl rfl,⟨_,rfl,zO ?_ rfl⟩,trivial⟩ ⟨?_,trivial⟩)⟩
  ·exact congrArg (AV.int .i64) ((zy (by omega) (by omega)).trans (by omega))
  ·refine⟨⟨_,rfl,.of_eq (congrArg (fun r=>AB.arr 25 3 r true) ?_)⟩,rfl⟩
   refine(zhy htl (by rw[zeb];exact hlt)).trans ?_
   rw[List.take_add_one,hk,Option.toList_some,zas,rs1]
   rfl
 ·obtain rfl:j=l.length:=by rw[zeb]at hc;omega
  repeat'(first|refine WL_p hty rfl rfl ?_|refine zh ?_|refine zi ?_|refine za ?_|refine zbZ rfl ?_|refine zl ?_|refine zg ?_)
  refine zbm (zaF 10 rfl) ?_
  refine zH rfl rfl (.of_eq ?_)
  rw[List.take_length,zeb,Nat.sub_self]
  exact congrArg (fun r=>AV.lst 3 r false) (List.append_nil _)
theorem zry: ∀ n,n≤1048576→ ∀ l:List Tm,sizes l≤n→FC Tryz.prog 97 [sT l] (sT l):=by
 intro n
 induction n with
 |zero=>exact fun hn=>ziT 0 hn (fun a h=>absurd a.size_pos (by omega))
 |succ n ih=>exact fun hn=>ziT (n+1) hn (zk6 n (ih (by omega)))
theorem zpY(l:List Tm)(h:sizes l≤1048576):FC Tryz.prog 97 [sT l] (sT l):=zry 1048576 (by omega) l h
theorem zcV(t:Tm)(h:t.size≤1048576):FC Tryz.prog 57 [aT t] (aT t):=zk6 1048576 zpY t (by omega)
end Go.Proofs.YtokfbblhjpfjkaaGreat
namespace Go.Proofs.YtokfbblhjpfjkaaGreat
open Go.Aw Go.RowKit
def Runs(v:AV):Option (Tm×Int)→Prop
 |none=>v=.nilf
 |some u=> ∃ g xa,v=.fn (.func g) [] xa∧xa.all zai=true∧FC Tryz.prog g xa (.tup [aT u.1,.int .i64 u.2])
theorem Runs.thaw{v:AV}{r:Option (Tm×Int)}(h:Runs v r):zhh 0 v=some (v,[])∧(∀ blk:Bk,argV blk v=some v)∧(match v with| .nilf| .fn _ _ _=>true|_=>false)=true:=by
 cases r with
 |none=>obtain rfl:v=.nilf:=h;exact⟨rfl,fun _=>rfl,rfl⟩
 |some u=>
  obtain⟨g,xa,rfl,hc,_⟩:=h
  have hcl:zaj (.fn (.func g) [] xa)=true:=by simp only[zaj,hc];rfl
  refine⟨?_,fun blk=>?_,rfl⟩
  ·simp only[zhh,zgp,zf5,zgO,hcl]
  ·simp only[argV,argS,hcl]
theorem zqK:zfd Tryz.prog 112=true:=by kernel_rfl
end Go.Proofs.YtokfbblhjpfjkaaGreat
namespace Go.Proofs.YtokfbblhjpfjkaaGreat
open Go.Aw Go.RowKit
structure En where
 kind:Int
 typ:Tm
 body:Tm
 base:Int
 which:Int
 block:Bl
abbrev cE(e:En):List AV:=[.int .i64 e.kind,.int .i64 e.typ.kind,.int .i64 e.typ.num,.lst 3 (rsT e.typ.kids) false,.int .i64 e.body.kind,.int .i64 e.body.num,.lst 3 (rsT e.body.kids) false,.int .i64 e.base,.int .i64 e.which,
 .lst 6 (zY e.block.sorts) false,.lst 6 (rsC e.block.cons) false,.int .i64 e.block.elim]
def rsE:List En→List (List AV)
 |[]=>[]
 |a::l=>cE a::rsE l
abbrev aE(e:En):AV:=.agg (cE e)
abbrev sE(l:List En):AV:=.lst 12 (rsE l) false
theorem zlU(l:List En):rsE l=l.map cE:=by
 induction l with
 |nil=>rfl
 |cons t l ih=>simp[rsE,ih]
theorem zaW(l:List En):(rsE l).length=l.length:=by rw[zlU,List.length_map]
theorem zeM{l:List En}{i:Nat}{t:En}(h:l[i]? =some t):(rsE l)[i]? =some (cE t):=by rw[zlU,List.getElem?_map,h];rfl
def zE:En:=⟨0,zT,zT,0,0,⟨[],[],0⟩⟩
def En.size(e:En):Nat:=e.typ.size+e.body.size+e.block.size
def zbJ:List En→Nat
 |[]=>0
 |a::l=>a.size+zbJ l
theorem En.size_pos(a:En):1≤a.size:=by have:=a.typ.size_pos;unfold En.size;omega
theorem zbn{l:List En}{t:En}(h:t∈l):t.size≤zbJ l:=by
 induction l with
 |nil=>cases h
 |cons a l ih=>
  simp only[zbJ]
  rcases List.mem_cons.1 h with rfl|h
  ·omega
  ·have:=ih h;omega
theorem zbU(l:List En):l.length≤zbJ l:=by
 induction l with
 |nil=>simp
 |cons a l ih=>
  simp only[zbJ,List.length_cons]
  have:=a.size_pos;omega
end Go.Proofs.YtokfbblhjpfjkaaGreat
namespace Go.Proofs.YtokfbblhjpfjkaaGreat
open Go.Aw Go.RowKit
def zB0:List (Nat×List Nat):=[(0,[]),(1,[]),(2,[0,1]),(3,[0,1,2]),(4,[]),(5,[]),(6,[4,5]),(7,[4,5,6]),(8,[0,1,2,3,4,5,6,7]),(9,[0,1,2,3,4,5,6,7,8])]
attribute [local irreducible] WL AC WD WE MStep OkOp
theorem zjj(n:Nat)(ihs: ∀ la lb:List Tm,sizes la≤n→FC Tryz.prog 50 [sT la,sT lb] (.bool (decide (la=lb))))(a b:Tm)(ha:a.size≤n+1):FC Tryz.prog 22 [aT a,aT b] (.bool (decide (a=b))):=by
 have hs:=a.size_eq
 refine zo hty Tryz.func22 rfl rfl rfl fun w0=>?_
 repeat'(first|refine zv 0 rfl (ihs _ _ (by omega)) rfl rfl rfl ?_|refine WL_p hty rfl rfl ?_|refine zh ?_|refine zi ?_|refine za ?_|refine zg ?_|refine zx rfl rfl ?_|refine zq rfl rfl rfl ?_|refine zb rfl ?_|refine zj rfl rfl rfl rfl (fun _=>?_) (fun _=>?_))
 ·exact decide_eq_decide.2 ⟨fun h=>Tm.ext ‹_› ‹_› h,fun h=>by rw[h]⟩
 ·exact(decide_eq_false fun h=>by subst h;contradiction).symm
 ·exact(decide_eq_false fun h=>by subst h;contradiction).symm
theorem zix(n:Nat)(hn:n≤1048576)(ih: ∀ a b:Tm,a.size≤n→FC Tryz.prog 22 [aT a,aT b] (.bool (decide (a=b))))(la lb:List Tm)(ha:sizes la≤n):FC Tryz.prog 50 [sT la,sT lb] (.bool (decide (la=lb))):=by
 have hla:=zM la
 refine zo hty Tryz.func50 rfl rfl rfl fun w0=>?_
 repeat'(first|refine WL_p hty rfl rfl ?_|refine zh ?_|refine zi ?_|refine za ?_|refine zf ?_|refine zxg ?_|refine zd rfl ?_|refine zbZ rfl ?_|refine zg ?_|refine zb rfl ?_|refine zj rfl rfl rfl rfl (fun _=>?_) (fun _=>?_))
 ·rename_i h
  exact(decide_eq_false fun q=>h (by rw[q])).symm
 rename_i h
 rw[zeb,zeb]at h
 have h:la.length=lb.length:=by omega
 refine zW la.length (fun j=>la.take j=lb.take j) (fun j=>⟨envOf [(0,sT la),(1,sT lb),(5,.int .i64 (j:Nat))],bkOf []⟩)
  (zfY ⟨zz rfl rfl,zz rfl rfl,zz rfl rfl,trivial⟩ trivial) rfl ?_
 intro j hj hI
 repeat'(first|refine WL_p hty rfl rfl ?_|refine zh ?_|refine zi ?_|refine za ?_|refine zf ?_|refine zxg ?_|refine zd rfl ?_|refine zbZ rfl ?_|refine zl ?_|refine zg ?_|refine zb rfl ?_|refine zj rfl rfl rfl rfl (fun _=>?_) (fun _=>?_))
 ·rename_i hc
  rw[zeb]at hc
  have hlt:j <la.length:=by omega
  obtain⟨a,ha,hma⟩:=zA hlt
  obtain⟨b,hb,_⟩:=zA (h▸hlt)
  have:=zK hma
  have ra:=zac ha
  have rb:=zac hb
  refine zD (id:=6) zB0 rfl (by kernel_rfl) ?_
  repeat'(first|refine zu (.inl ⟨rfl,zar 0 rfl (ih _ _ (by omega)) rfl rfl rfl⟩) ?_|refine zu (.inl ⟨rfl,zI hty rfl rfl⟩) ?_|refine zu (.inl ⟨rfl,zm hty rfl rfl rfl (by assumption) rfl⟩) ?_|refine zS ⟨by kernel_rfl,?_⟩|refine WL_p hty rfl rfl ?_|refine zh ?_|refine zi ?_|refine za ?_|refine zxg ?_|refine zg ?_|refine zb rfl ?_|refine zDp rfl (fun _=>?_) (fun _=>?_))
  ·rename_i hab
   have hab:a≠b:=by simpa using hab
   refine(decide_eq_false fun q=>hab ?_).symm
   rw[q,hb]at ha
   exact(Option.some.inj ha).symm
  ·rename_i hab
   have hab:a=b:=by simpa using hab
   refine⟨hlt,?_,(zfY ⟨zz rfl rfl,zz rfl rfl,⟨_,rfl,zO ?_ rfl⟩,trivial⟩ trivial)⟩
   ·rw[List.take_add_one,List.take_add_one,hI,ha,hb,hab]
   ·exact congrArg (AV.int .i64) ((zy (by omega) (by omega)).trans (by omega))
 ·rename_i hc
  rw[zeb]at hc
  obtain rfl:j=la.length:=by omega
  refine(decide_eq_true ?_).symm
  rw[List.take_length,h,List.take_length]at hI
  exact hI
theorem zie: ∀ n,n≤1048576→ ∀ la lb:List Tm,sizes la≤n→FC Tryz.prog 50 [sT la,sT lb] (.bool (decide (la=lb))):=by
 intro n
 induction n with
 |zero=>exact fun hn=>zix 0 hn (fun a b h=>absurd a.size_pos (by omega))
 |succ n ih=>exact fun hn=>zix (n+1) hn (zjj n (ih (by omega)))
theorem zcZ(a b:Tm)(h:a.size≤1048576):FC Tryz.prog 22 [aT a,aT b] (.bool (decide (a=b))):=
 zjj 1048576 (zie 1048576 (by omega)) a b (by omega)
end Go.Proofs.YtokfbblhjpfjkaaGreat
namespace Go.Proofs.YtokfbblhjpfjkaaGreat
open Go.Aw Go.RowKit
attribute [local irreducible] WL AC WD WE MStep OkOp
theorem ztx{P:Program}{w0:B0}{nt:Nat}{id:Nat}{ops:Array Oper}{b:Bool}{s:AS}{C:Exit→AS→Prop}(h:AC P w0 nt (.region id ops b) s C):AC P w0 nt (.region id ops b) s C:=h
theorem zlE(k:Int)(l:List Tm)(full:Bool)(hl:l≠[])(hn:l.length≤1000):FC Tryz.prog 17 [.int .i64 k,.lst 3 (rsT l) full] (aT (.mk k 0 l)):=by
 have hne:rsT l≠[]:=by
  intro h
  have:=zeb l
  rw[h]at this
  exact hl (List.length_eq_zero_iff.1 this.symm)
 have hb:(0:Nat)+(rsT l).length≤4194304:=by rw[zeb];omega
 refine zo hty Tryz.func17 rfl rfl rfl fun w0=>?_
 repeat'(first|refine WL_m rfl (ze7 hty 9 rfl rfl rfl rfl rfl rfl rfl hne hb rfl rfl rfl) ?_|refine WL_p hty rfl rfl ?_|refine zh ?_|refine zi ?_|refine za ?_|refine zg ?_)
 refine zbm (zaF 9 rfl) ?_
 exact zH rfl rfl (.refl _)
theorem rt2(k:Int)(a b:Tm):FC Tryz.prog 17 [.int .i64 k,.lst 3 [cT a,cT b] true] (aT (.mk k 0 [a,b])):=by
 have:=zlE k [a,b] true (by simp) (by simp);rwa[rs2]at this
theorem rt3(k:Int)(a b c:Tm):FC Tryz.prog 17 [.int .i64 k,.lst 3 [cT a,cT b,cT c] true] (aT (.mk k 0 [a,b,c])):=by
 have:=zlE k [a,b,c] true (by simp) (by simp);rwa[rs3]at this
theorem zmG(n:Int):FC Tryz.prog 38 [.int .i64 n] (aT (.mk 2 n [])):=by
 refine zo hty Tryz.func38 rfl rfl rfl fun w0=>?_
 repeat'(first|refine WL_p hty rfl rfl ?_|refine zh ?_|refine zi ?_|refine za ?_|refine zg ?_)
 refine zH rfl rfl (.agg ?_)
 repeat'(first|exact Wks.nil|refine Wks.cons (Wk.refl _) ?_|refine Wks.cons (Wk.full _ _ _) ?_)
theorem ztY(n:Int):FC Tryz.prog 27 [.int .i64 n] (aT (.mk 1 n [])):=by
 refine zo hty Tryz.func27 rfl rfl rfl fun w0=>?_
 repeat'(first|refine WL_p hty rfl rfl ?_|refine zh ?_|refine zi ?_|refine za ?_|refine zg ?_)
 refine zH rfl rfl (.agg ?_)
 repeat'(first|exact Wks.nil|refine Wks.cons (Wk.refl _) ?_|refine Wks.cons (Wk.full _ _ _) ?_)
theorem zpx(a:Tm)(h:a.size≤1048576):FC Tryz.prog 22 [aT a,aT a] (.bool true):=by
 have:=zcZ a a h;rwa[decide_eq_true rfl]at this
end Go.Proofs.YtokfbblhjpfjkaaGreat
namespace Go.Proofs.YtokfbblhjpfjkaaGreat
open Go.Aw Go.RowKit
theorem zsC{H:Type}(l:List (DataW H)):(l.map Rows.uptoBulk).sum=Rows.uptoBulkAll l:=by
 induction l with
 |nil=>rfl
 |cons a l ih=>simp only[List.map_cons,List.sum_cons,ih,Rows.uptoBulkAll]
theorem zcx{H:Type}(l r:List (DataW H)):(l.map Rows.uptoBulk).sum≤Rows.uptoBulk (.slice l r):=by
 rw[zsC];simp only[Rows.uptoBulk];omega
theorem zdf{H:Type}(d:DataW H):1≤Rows.uptoBulk d:=by
 cases d with
 |lit l=>cases l <;>simp[Rows.uptoBulk]
 |_=>simp[Rows.uptoBulk]
theorem laid:Laid Tryz.prog:=⟨by kernel_rfl,by kernel_rfl,by kernel_rfl⟩
theorem zek:Tryz.prog.cellsOf 3=1:=by kernel_rfl
theorem zqx:Tryz.prog.cellsOf 4=1:=by kernel_rfl
theorem zim:Tryz.prog.cellsOf 25=3:=by kernel_rfl
theorem zlQ:Tryz.prog.cellsOf 23=1:=by kernel_rfl
theorem zuu:Tryz.prog.cellsOf 130=7:=by kernel_rfl
theorem ztc:Tryz.prog.cellsOf 101=1:=by kernel_rfl
theorem zul:Tryz.prog.cellsOf 105=6:=by kernel_rfl
theorem zuQ:Tryz.prog.cellsOf 45=1:=by kernel_rfl
theorem zuq:Tryz.prog.cellsOf 103=6:=by kernel_rfl
theorem zu3:Tryz.prog.cellsOf 44=1:=by kernel_rfl
theorem zum:Tryz.prog.cellsOf 47=3:=by kernel_rfl
section
variable {H:Type} {enc:TypeId×Value→H} {w:World} {fuel:Nat} {cs:List Value} {d:DataW H} {ps:List MemPlace}
theorem zti(l:List Tm):l.map cT=rsT l:=by
 rw[zbq];exact List.map_congr_left fun t _=>(zfl t).symm
theorem zkP(l:List Tm):(l.map fun t=>3*Tm.size t).sum=3*sizes l:=by
 induction l with
 |nil=>rfl
 |cons a l ih=>simp only[List.map_cons,List.sum_cons,ih,sizes];omega
theorem zoP(l:List Ar):(l.map fun t=>3*Ar.size t).sum=3*zaH l:=by
 induction l with
 |nil=>rfl
 |cons a l ih=>simp only[List.map_cons,List.sum_cons,ih,zaH];omega
theorem zoC(l:List Cn):(l.map fun t=>3*Cn.size t).sum=3*zbg l:=by
 induction l with
 |nil=>rfl
 |cons a l ih=>simp only[List.map_cons,List.sum_cons,ih,zbg];omega
theorem zo1(l:List Sr):(l.map fun t=>3*Sr.size t).sum=3*zbh l:=by
 induction l with
 |nil=>rfl
 |cons a l ih=>simp only[List.map_cons,List.sum_cons,ih,zbh];omega
set_option maxRecDepth 100000 in
theorem zeK: ∀ fuel cs (d:DataW H) ps,DataW.trod enc Tryz.prog w 0 (fun _=>true) true fuel 25 cs=some (d,ps)→ ∃ t:Tm,CV (zdR w) w cs (cT t)∧3*t.size≤Rows.uptoBulk d:=by
 intro fuel
 induction fuel using Nat.strongRecOn with
 |_ fuel IH=>
  intro cs d ps h
  obtain⟨xs,n,rfl,e,hl,hxl,hf⟩:=DataW.trod_struct Tryz.underlying25 h
  obtain⟨rfl,rfl⟩:=Prod.mk.inj e
  rw[zim]at hl
  match xs,hxl,cs,hl with
  |[x0,x1,x2],_,[c0,c1,c2],_=>
   have h0:DataW.trod enc Tryz.prog w 0 (fun _=>true) true n 3 (List.take (Tryz.prog.cellsOf 3) [c0,c1,c2])=some (x0.1,x0.2):=hf 0 _ rfl
   rw[zek]at h0
   have h1:DataW.trod enc Tryz.prog w 0 (fun _=>true) true n 3 (List.take (Tryz.prog.cellsOf 3) [c1,c2])=some (x1.1,x1.2):=hf 1 _ rfl
   rw[zek]at h1
   have h2:DataW.trod enc Tryz.prog w 0 (fun _=>true) true n 23 (List.take (Tryz.prog.cellsOf 23) [c2])=some (x2.1,x2.2):=hf 2 _ rfl
   rw[zlQ]at h2
   obtain⟨k,_,r0,_⟩:=zcr Tryz.underlying3 h0
   obtain⟨m,_,r1,_⟩:=zcr Tryz.underlying3 h1
   obtain⟨l,r2,hs⟩:=zcw Tryz.underlying23 zim (by decide) (fun t=>3*Tm.size t) cT Rows.uptoBulk zcx (fun m cs d ps hm hh=>IH m (by omega) cs d ps hh) h2
   rw[zti]at r2
   rw[zkP]at hs
   have o0:=zdf x0.1
   have o1:=zdf x1.1
   refine⟨.mk k m l,r0.append (r1.append r2),?_⟩
   simp only[Tm.size,List.map_cons,List.map_nil,Rows.uptoBulk,Rows.uptoBulkAll]
   omega
theorem zjF(h:DataW.trod enc Tryz.prog w 0 (fun _=>true) true fuel 23 cs=some (d,ps)): ∃ l:List Tm,CV (zdR w) w cs [sT l]∧3*sizes l≤Rows.uptoBulk d:=by
 obtain⟨l,r2,hs⟩:=zcw Tryz.underlying23 zim (by decide) (fun t=>3*Tm.size t) cT Rows.uptoBulk zcx (fun m cs d ps hm hh=>zeK m cs d ps hh) h
 rw[zti]at r2
 rw[zkP]at hs
 exact⟨l,r2,hs⟩
set_option maxRecDepth 100000 in
theorem ztI{cs}{d:DataW H}{ps}(h:DataW.trod enc Tryz.prog w 0 (fun _=>true) true fuel 130 cs=some (d,ps)): ∃ t:Ar,CV (zdR w) w cs (cA t)∧3*t.size≤Rows.uptoBulk d:=by
 obtain⟨xs,n,rfl,e,hl,hxl,hf⟩:=DataW.trod_struct Tryz.underlying130 h
 obtain⟨rfl,rfl⟩:=Prod.mk.inj e
 rw[zuu]at hl
 match xs,hxl,cs,hl with
 |[x0,x1,x2,x3,x4],_,[c0,c1,c2,c3,c4,c5,c6],_=>
  have h0:DataW.trod enc Tryz.prog w 0 (fun _=>true) true n 4 (List.take (Tryz.prog.cellsOf 4) [c0,c1,c2,c3,c4,c5,c6])=some (x0.1,x0.2):=hf 0 _ rfl
  rw[zqx]at h0
  have h1:DataW.trod enc Tryz.prog w 0 (fun _=>true) true n 25 (List.take (Tryz.prog.cellsOf 25) [c1,c2,c3,c4,c5,c6])=some (x1.1,x1.2):=hf 1 _ rfl
  rw[zim]at h1
  have h2:DataW.trod enc Tryz.prog w 0 (fun _=>true) true n 23 (List.take (Tryz.prog.cellsOf 23) [c4,c5,c6])=some (x2.1,x2.2):=hf 2 _ rfl
  rw[zlQ]at h2
  have h3:DataW.trod enc Tryz.prog w 0 (fun _=>true) true n 3 (List.take (Tryz.prog.cellsOf 3) [c5,c6])=some (x3.1,x3.2):=hf 3 _ rfl
  rw[zek]at h3
  have h4:DataW.trod enc Tryz.prog w 0 (fun _=>true) true n 23 (List.take (Tryz.prog.cellsOf 23) [c6])=some (x4.1,x4.2):=hf 4 _ rfl
  rw[zlQ]at h4
  obtain⟨k,_,r0⟩:=zlp Tryz.underlying4 h0
  obtain⟨m,r1,s1⟩:=zeK _ _ _ _ h1
  obtain⟨l,r2,s2⟩:=zjF h2
  obtain⟨o,_,r3,_⟩:=zcr Tryz.underlying3 h3
  obtain⟨q,r4,s4⟩:=zjF h4
  refine⟨⟨k,m,l,o,q⟩,r0.append (r1.append (r2.append (r3.append r4))),?_⟩
  simp only[Ar.size,List.map_cons,List.map_nil,Rows.uptoBulk,Rows.uptoBulkAll]
  omega
theorem zuM(l:List Ar):l.map cA=zX l:=by
 induction l with
 |nil=>rfl
 |cons a l ih=>simp only[List.map_cons,ih,zX]
theorem zn7{cs}{d:DataW H}{ps}(h:DataW.trod enc Tryz.prog w 0 (fun _=>true) true fuel 101 cs=some (d,ps)): ∃ l:List Ar,CV (zdR w) w cs [sA l]∧3*zaH l≤Rows.uptoBulk d:=by
 obtain⟨l,r2,hs⟩:=zcw Tryz.underlying101 zuu (by decide) (fun t=>3*Ar.size t) cA Rows.uptoBulk zcx (fun m cs d ps hm hh=>ztI hh) h
 rw[zuM]at r2
 rw[zoP]at hs
 exact⟨l,r2,hs⟩
set_option maxRecDepth 100000 in
theorem ztM{cs}{d:DataW H}{ps}(h:DataW.trod enc Tryz.prog w 0 (fun _=>true) true fuel 105 cs=some (d,ps)): ∃ t:Cn,CV (zdR w) w cs (cC t)∧3*t.size+2≤Rows.uptoBulk d:=by
 obtain⟨xs,n,rfl,e,hl,hxl,hf⟩:=DataW.trod_struct Tryz.underlying105 h
 obtain⟨rfl,rfl⟩:=Prod.mk.inj e
 rw[zul]at hl
 match xs,hxl,cs,hl with
 |[x0,x1,x2,x3],_,[c0,c1,c2,c3,c4,c5],_=>
  have h0:DataW.trod enc Tryz.prog w 0 (fun _=>true) true n 3 (List.take (Tryz.prog.cellsOf 3) [c0,c1,c2,c3,c4,c5])=some (x0.1,x0.2):=hf 0 _ rfl
  rw[zek]at h0
  have h1:DataW.trod enc Tryz.prog w 0 (fun _=>true) true n 101 (List.take (Tryz.prog.cellsOf 101) [c1,c2,c3,c4,c5])=some (x1.1,x1.2):=hf 1 _ rfl
  rw[ztc]at h1
  have h2:DataW.trod enc Tryz.prog w 0 (fun _=>true) true n 23 (List.take (Tryz.prog.cellsOf 23) [c2,c3,c4,c5])=some (x2.1,x2.2):=hf 2 _ rfl
  rw[zlQ]at h2
  have h3:DataW.trod enc Tryz.prog w 0 (fun _=>true) true n 25 (List.take (Tryz.prog.cellsOf 25) [c3,c4,c5])=some (x3.1,x3.2):=hf 3 _ rfl
  rw[zim]at h3
  obtain⟨o,_,r0,_⟩:=zcr Tryz.underlying3 h0
  obtain⟨m,r1,s1⟩:=zn7 h1
  obtain⟨l,r2,s2⟩:=zjF h2
  obtain⟨q,r3,s3⟩:=zeK _ _ _ _ h3
  have o0:=zdf x0.1
  refine⟨⟨o,m,l,q⟩,r0.append (r1.append (r2.append r3)),?_⟩
  simp only[Cn.size,List.map_cons,List.map_nil,Rows.uptoBulk,Rows.uptoBulkAll]
  omega
theorem zuL(l:List Cn):l.map cC=rsC l:=by
 induction l with
 |nil=>rfl
 |cons a l ih=>simp only[List.map_cons,ih,rsC]
theorem zsM{cs}{d:DataW H}{ps}(h:DataW.trod enc Tryz.prog w 0 (fun _=>true) true fuel 45 cs=some (d,ps)): ∃ l:List Cn,CV (zdR w) w cs [sC l]∧3*zbg l≤Rows.uptoBulk d:=by
 obtain⟨l,r2,hs⟩:=zcw Tryz.underlying45 zul (by decide) (fun t=>3*Cn.size t) cC Rows.uptoBulk zcx (fun m cs d ps hm hh=>let ⟨t,q1,q2⟩:=ztM hh;⟨t,q1,by omega⟩) h
 rw[zuL]at r2
 rw[zoC]at hs
 exact⟨l,r2,hs⟩
set_option maxRecDepth 100000 in
theorem zuh{cs}{d:DataW H}{ps}(h:DataW.trod enc Tryz.prog w 0 (fun _=>true) true fuel 103 cs=some (d,ps)): ∃ t:Sr,CV (zdR w) w cs (cS t)∧3*t.size≤Rows.uptoBulk d:=by
 obtain⟨xs,n,rfl,e,hl,hxl,hf⟩:=DataW.trod_struct Tryz.underlying103 h
 obtain⟨rfl,rfl⟩:=Prod.mk.inj e
 rw[zuq]at hl
 match xs,hxl,cs,hl with
 |[x0,x1,x2,x3],_,[c0,c1,c2,c3,c4,c5],_=>
  have h0:DataW.trod enc Tryz.prog w 0 (fun _=>true) true n 101 (List.take (Tryz.prog.cellsOf 101) [c0,c1,c2,c3,c4,c5])=some (x0.1,x0.2):=hf 0 _ rfl
  rw[ztc]at h0
  have h1:DataW.trod enc Tryz.prog w 0 (fun _=>true) true n 3 (List.take (Tryz.prog.cellsOf 3) [c1,c2,c3,c4,c5])=some (x1.1,x1.2):=hf 1 _ rfl
  rw[zek]at h1
  have h2:DataW.trod enc Tryz.prog w 0 (fun _=>true) true n 4 (List.take (Tryz.prog.cellsOf 4) [c2,c3,c4,c5])=some (x2.1,x2.2):=hf 2 _ rfl
  rw[zqx]at h2
  have h3:DataW.trod enc Tryz.prog w 0 (fun _=>true) true n 25 (List.take (Tryz.prog.cellsOf 25) [c3,c4,c5])=some (x3.1,x3.2):=hf 3 _ rfl
  rw[zim]at h3
  obtain⟨m,r0,s0⟩:=zn7 h0
  obtain⟨o,_,r1,_⟩:=zcr Tryz.underlying3 h1
  obtain⟨b,_,r2⟩:=zlp Tryz.underlying4 h2
  obtain⟨q,r3,s3⟩:=zeK _ _ _ _ h3
  refine⟨⟨m,o,b,q⟩,r0.append (r1.append (r2.append r3)),?_⟩
  simp only[Sr.size,List.map_cons,List.map_nil,Rows.uptoBulk,Rows.uptoBulkAll]
  omega
theorem zuS(l:List Sr):l.map cS=zY l:=by
 induction l with
 |nil=>rfl
 |cons a l ih=>simp only[List.map_cons,ih,zY]
theorem zsH{cs}{d:DataW H}{ps}(h:DataW.trod enc Tryz.prog w 0 (fun _=>true) true fuel 44 cs=some (d,ps)): ∃ l:List Sr,CV (zdR w) w cs [sS l]∧3*zbh l≤Rows.uptoBulk d:=by
 obtain⟨l,r2,hs⟩:=zcw Tryz.underlying44 zuq (by decide) (fun t=>3*Sr.size t) cS Rows.uptoBulk zcx (fun m cs d ps hm hh=>zuh hh) h
 rw[zuS]at r2
 rw[zo1]at hs
 exact⟨l,r2,hs⟩
set_option maxRecDepth 100000 in
theorem ztZ{cs}{d:DataW H}{ps}(h:DataW.trod enc Tryz.prog w 0 (fun _=>true) true fuel 47 cs=some (d,ps)): ∃ t:Bl,CV (zdR w) w cs [.lst 6 (zY t.sorts) false,.lst 6 (rsC t.cons) false,.int .i64 t.elim]∧3*t.size≤Rows.uptoBulk d:=by
 obtain⟨xs,n,rfl,e,hl,hxl,hf⟩:=DataW.trod_struct Tryz.underlying47 h
 obtain⟨rfl,rfl⟩:=Prod.mk.inj e
 rw[zum]at hl
 match xs,hxl,cs,hl with
 |[x0,x1,x2],_,[c0,c1,c2],_=>
  have h0:DataW.trod enc Tryz.prog w 0 (fun _=>true) true n 44 (List.take (Tryz.prog.cellsOf 44) [c0,c1,c2])=some (x0.1,x0.2):=hf 0 _ rfl
  rw[zu3]at h0
  have h1:DataW.trod enc Tryz.prog w 0 (fun _=>true) true n 45 (List.take (Tryz.prog.cellsOf 45) [c1,c2])=some (x1.1,x1.2):=hf 1 _ rfl
  rw[zuQ]at h1
  have h2:DataW.trod enc Tryz.prog w 0 (fun _=>true) true n 3 (List.take (Tryz.prog.cellsOf 3) [c2])=some (x2.1,x2.2):=hf 2 _ rfl
  rw[zek]at h2
  obtain⟨m,r0,s0⟩:=zsH h0
  obtain⟨l,r1,s1⟩:=zsM h1
  obtain⟨o,_,r2,_⟩:=zcr Tryz.underlying3 h2
  refine⟨⟨m,l,o⟩,r0.append (r1.append r2),?_⟩
  simp only[Bl.size,List.map_cons,List.map_nil,Rows.uptoBulk,Rows.uptoBulkAll]
  omega
end
end Go.Proofs.YtokfbblhjpfjkaaGreat
