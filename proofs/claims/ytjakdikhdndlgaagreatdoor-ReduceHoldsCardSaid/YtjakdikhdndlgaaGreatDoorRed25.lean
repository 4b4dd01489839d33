/- The contract of Extend of reduce. -/
import Derived.Sort.LoopGhostIn
import Derived.Sort.CutIn
import Derived.Maps.OwnIn
import Derived.Test.YtjakdikhdndlgaaGreatDoorRed17
import Derived.Test.YtjakdikhdndlgaaGreatDoorRed18
import Derived.Test.YtjakdikhdndlgaaGreatDoorRed22
import Derived.Test.YtjakdikhdndlgaaGreatDoorRed23
import Derived.Test.YtjakdikhdndlgaaGreatDoorRed24
set_option maxRecDepth 100000
set_option maxHeartbeats 80000000
namespace Go.Proofs.YtjakdikhdndlgaaGreatDoor
open Go.RowKit Go.Shelf Go.ChangeShapes Go.WideShapes Go.ChangeAt Go.Deep Go.Joins
attribute [local go_sem] Oper.semAt_some
def XeF1 (p2 p6 p8:Nat) (Al:Option Addr) (nl cl:Nat) (Ao:Option Addr) (no co k:Nat) (ds:List Nat) (a:Act):Prop:=∃ u:Nat→Value,a={ tmps:=#[u 0,(.slice Al nl cl),(.pointer (some ⟨p2,0,none⟩)),u 3,u 4,u 5,(.pointer (some ⟨p6,0,none⟩)),(.slice Ao no co),(.pointer (some ⟨p8,0,none⟩)),u 9,u 10,u 11,u 12,u 13,u 14,u 15,u 16,u 17,u 18,u 19,u 20,u 21,u 22,u 23,u 24,u 25,u 26,u 27,u 28,u 29,u 30,u 31,u 32,u 33,u 34,u 35,u 36,u 37,u 38,u 39,u 40,u 41,u 42,u 43,u 44,u 45,u 46,u 47,u 48,(.slice Ao no co),(.int .i64 (no:Int)),(.int .i64 (k:Int)),u 52,u 53,u 54,u 55,u 56,u 57,u 58,u 59,u 60,u 61,u 62,u 63,u 64,u 65,u 66,u 67,u 68,u 69,u 70,u 71,u 72,u 73,u 74,u 75,u 76,u 77,u 78,u 79,u 80,u 81,u 82,u 83,u 84,u 85,u 86,u 87,u 88,u 89,u 90,u 91,u 92,u 93,u 94,u 95,u 96,u 97,u 98,u 99,u 100,u 101,u 102,u 103,u 104,u 105,u 106,u 107,u 108,u 109,u 110,u 111,u 112,u 113,u 114,u 115,u 116,u 117,u 118,u 119,u 120,u 121,u 122,u 123,u 124,u 125,u 126,u 127,u 128,u 129,u 130,u 131,u 132,u 133,u 134,u 135,u 136,u 137,u 138,u 139,u 140,u 141,u 142,u 143,u 144,u 145,u 146,u 147,u 148,u 149,u 150,u 151,u 152,u 153,u 154,u 155,u 156,u 157,u 158,u 159],defers:=marksOf ds }
theorem XeF1_mk {p2 p6 p8:Nat} {Al:Option Addr} {nl cl:Nat} {Ao:Option Addr} {no co k:Nat} {ds:List Nat} {u0 u3 u4 u5 u9 u10 u11 u12 u13 u14 u15 u16 u17 u18 u19 u20 u21 u22 u23 u24 u25 u26 u27 u28 u29 u30 u31 u32 u33 u34 u35 u36 u37 u38 u39 u40 u41 u42 u43 u44 u45 u46 u47 u48 u52 u53 u54 u55 u56 u57 u58 u59 u60 u61 u62 u63 u64 u65 u66 u67 u68 u69 u70 u71 u72 u73 u74 u75 u76 u77 u78 u79 u80 u81 u82 u83 u84 u85 u86 u87 u88 u89 u90 u91 u92 u93 u94 u95 u96 u97 u98 u99 u100 u101 u102 u103 u104 u105 u106 u107 u108 u109 u110 u111 u112 u113 u114 u115 u116 u117 u118 u119 u120 u121 u122 u123 u124 u125 u126 u127 u128 u129 u130 u131 u132 u133 u134 u135 u136 u137 u138 u139 u140 u141 u142 u143 u144 u145 u146 u147 u148 u149 u150 u151 u152 u153 u154 u155 u156 u157 u158 u159:Value}:XeF1 p2 p6 p8 Al nl cl Ao no co k ds { tmps:=#[u0,(.slice Al nl cl),(.pointer (some ⟨p2,0,none⟩)),u3,u4,u5,(.pointer (some ⟨p6,0,none⟩)),(.slice Ao no co),(.pointer (some ⟨p8,0,none⟩)),u9,u10,u11,u12,u13,u14,u15,u16,u17,u18,u19,u20,u21,u22,u23,u24,u25,u26,u27,u28,u29,u30,u31,u32,u33,u34,u35,u36,u37,u38,u39,u40,u41,u42,u43,u44,u45,u46,u47,u48,(.slice Ao no co),(.int .i64 (no:Int)),(.int .i64 (k:Int)),u52,u53,u54,u55,u56,u57,u58,u59,u60,u61,u62,u63,u64,u65,u66,u67,u68,u69,u70,u71,u72,u73,u74,u75,u76,u77,u78,u79,u80,u81,u82,u83,u84,u85,u86,u87,u88,u89,u90,u91,u92,u93,u94,u95,u96,u97,u98,u99,u100,u101,u102,u103,u104,u105,u106,u107,u108,u109,u110,u111,u112,u113,u114,u115,u116,u117,u118,u119,u120,u121,u122,u123,u124,u125,u126,u127,u128,u129,u130,u131,u132,u133,u134,u135,u136,u137,u138,u139,u140,u141,u142,u143,u144,u145,u146,u147,u148,u149,u150,u151,u152,u153,u154,u155,u156,u157,u158,u159],defers:=marksOf ds }:=⟨fun i=>[u0,undef,undef,u3,u4,u5,undef,undef,undef,u9,u10,u11,u12,u13,u14,u15,u16,u17,u18,u19,u20,u21,u22,u23,u24,u25,u26,u27,u28,u29,u30,u31,u32,u33,u34,u35,u36,u37,u38,u39,u40,u41,u42,u43,u44,u45,u46,u47,u48,undef,undef,undef,u52,u53,u54,u55,u56,u57,u58,u59,u60,u61,u62,u63,u64,u65,u66,u67,u68,u69,u70,u71,u72,u73,u74,u75,u76,u77,u78,u79,u80,u81,u82,u83,u84,u85,u86,u87,u88,u89,u90,u91,u92,u93,u94,u95,u96,u97,u98,u99,u100,u101,u102,u103,u104,u105,u106,u107,u108,u109,u110,u111,u112,u113,u114,u115,u116,u117,u118,u119,u120,u121,u122,u123,u124,u125,u126,u127,u128,u129,u130,u131,u132,u133,u134,u135,u136,u137,u138,u139,u140,u141,u142,u143,u144,u145,u146,u147,u148,u149,u150,u151,u152,u153,u154,u155,u156,u157,u158,u159].getD i undef,rfl⟩
def XeF4 (p6:Nat) (Ao:Option Addr) (no co go n:Nat) (Al:Option Addr) (nl cl k:Nat) (ds:List Nat) (a:Act):Prop:=∃ u:Nat→Value,a={ tmps:=#[u 0,u 1,u 2,u 3,u 4,u 5,(.pointer (some ⟨p6,0,none⟩)),(.slice Ao no co),u 8,u 9,u 10,u 11,u 12,u 13,u 14,u 15,u 16,u 17,(.slice (some ⟨go,0,none⟩) n n),u 19,u 20,u 21,u 22,u 23,u 24,u 25,u 26,u 27,u 28,u 29,u 30,u 31,u 32,u 33,u 34,u 35,u 36,u 37,u 38,u 39,u 40,u 41,u 42,u 43,u 44,u 45,u 46,u 47,u 48,u 49,u 50,u 51,u 52,u 53,u 54,u 55,u 56,u 57,u 58,u 59,u 60,u 61,u 62,u 63,u 64,u 65,u 66,u 67,u 68,u 69,u 70,u 71,u 72,u 73,u 74,u 75,u 76,u 77,u 78,u 79,u 80,u 81,u 82,u 83,u 84,u 85,u 86,u 87,u 88,u 89,u 90,u 91,u 92,u 93,u 94,u 95,u 96,u 97,u 98,u 99,u 100,u 101,u 102,(.slice Al nl cl),(.int .i64 (nl:Int)),(.int .i64 (k:Int)),u 106,u 107,u 108,u 109,u 110,u 111,u 112,u 113,u 114,u 115,u 116,u 117,u 118,u 119,u 120,u 121,u 122,u 123,u 124,u 125,u 126,u 127,u 128,u 129,u 130,u 131,u 132,u 133,u 134,u 135,u 136,u 137,u 138,u 139,u 140,u 141,u 142,u 143,u 144,u 145,u 146,u 147,u 148,u 149,u 150,u 151,u 152,u 153,u 154,u 155,u 156,u 157,u 158,u 159],defers:=marksOf ds }
theorem XeF4_mk {p6:Nat} {Ao:Option Addr} {no co go n:Nat} {Al:Option Addr} {nl cl k:Nat} {ds:List Nat} {u0 u1 u2 u3 u4 u5 u8 u9 u10 u11 u12 u13 u14 u15 u16 u17 u19 u20 u21 u22 u23 u24 u25 u26 u27 u28 u29 u30 u31 u32 u33 u34 u35 u36 u37 u38 u39 u40 u41 u42 u43 u44 u45 u46 u47 u48 u49 u50 u51 u52 u53 u54 u55 u56 u57 u58 u59 u60 u61 u62 u63 u64 u65 u66 u67 u68 u69 u70 u71 u72 u73 u74 u75 u76 u77 u78 u79 u80 u81 u82 u83 u84 u85 u86 u87 u88 u89 u90 u91 u92 u93 u94 u95 u96 u97 u98 u99 u100 u101 u102 u106 u107 u108 u109 u110 u111 u112 u113 u114 u115 u116 u117 u118 u119 u120 u121 u122 u123 u124 u125 u126 u127 u128 u129 u130 u131 u132 u133 u134 u135 u136 u137 u138 u139 u140 u141 u142 u143 u144 u145 u146 u147 u148 u149 u150 u151 u152 u153 u154 u155 u156 u157 u158 u159:Value}:XeF4 p6 Ao no co go n Al nl cl k ds { tmps:=#[u0,u1,u2,u3,u4,u5,(.pointer (some ⟨p6,0,none⟩)),(.slice Ao no co),u8,u9,u10,u11,u12,u13,u14,u15,u16,u17,(.slice (some ⟨go,0,none⟩) n n),u19,u20,u21,u22,u23,u24,u25,u26,u27,u28,u29,u30,u31,u32,u33,u34,u35,u36,u37,u38,u39,u40,u41,u42,u43,u44,u45,u46,u47,u48,u49,u50,u51,u52,u53,u54,u55,u56,u57,u58,u59,u60,u61,u62,u63,u64,u65,u66,u67,u68,u69,u70,u71,u72,u73,u74,u75,u76,u77,u78,u79,u80,u81,u82,u83,u84,u85,u86,u87,u88,u89,u90,u91,u92,u93,u94,u95,u96,u97,u98,u99,u100,u101,u102,(.slice Al nl cl),(.int .i64 (nl:Int)),(.int .i64 (k:Int)),u106,u107,u108,u109,u110,u111,u112,u113,u114,u115,u116,u117,u118,u119,u120,u121,u122,u123,u124,u125,u126,u127,u128,u129,u130,u131,u132,u133,u134,u135,u136,u137,u138,u139,u140,u141,u142,u143,u144,u145,u146,u147,u148,u149,u150,u151,u152,u153,u154,u155,u156,u157,u158,u159],defers:=marksOf ds }:=⟨fun i=>[u0,u1,u2,u3,u4,u5,undef,undef,u8,u9,u10,u11,u12,u13,u14,u15,u16,u17,undef,u19,u20,u21,u22,u23,u24,u25,u26,u27,u28,u29,u30,u31,u32,u33,u34,u35,u36,u37,u38,u39,u40,u41,u42,u43,u44,u45,u46,u47,u48,u49,u50,u51,u52,u53,u54,u55,u56,u57,u58,u59,u60,u61,u62,u63,u64,u65,u66,u67,u68,u69,u70,u71,u72,u73,u74,u75,u76,u77,u78,u79,u80,u81,u82,u83,u84,u85,u86,u87,u88,u89,u90,u91,u92,u93,u94,u95,u96,u97,u98,u99,u100,u101,u102,undef,undef,undef,u106,u107,u108,u109,u110,u111,u112,u113,u114,u115,u116,u117,u118,u119,u120,u121,u122,u123,u124,u125,u126,u127,u128,u129,u130,u131,u132,u133,u134,u135,u136,u137,u138,u139,u140,u141,u142,u143,u144,u145,u146,u147,u148,u149,u150,u151,u152,u153,u154,u155,u156,u157,u158,u159].getD i undef,rfl⟩
def XeF6 (p6:Nat) (go n:Nat) (Ao:Option Addr) (no co k:Nat) (ds:List Nat) (a:Act):Prop:=∃ u:Nat→Value,a={ tmps:=#[u 0,u 1,u 2,u 3,u 4,u 5,(.pointer (some ⟨p6,0,none⟩)),u 7,u 8,u 9,u 10,u 11,u 12,u 13,u 14,u 15,u 16,u 17,(.slice (some ⟨go,0,none⟩) n n),u 19,u 20,u 21,u 22,u 23,u 24,u 25,u 26,u 27,u 28,u 29,u 30,u 31,u 32,u 33,u 34,u 35,u 36,u 37,u 38,u 39,u 40,u 41,u 42,u 43,u 44,u 45,u 46,u 47,u 48,u 49,u 50,u 51,u 52,u 53,u 54,u 55,u 56,u 57,u 58,u 59,u 60,u 61,u 62,u 63,u 64,u 65,u 66,u 67,u 68,u 69,u 70,u 71,u 72,u 73,u 74,u 75,u 76,u 77,u 78,u 79,u 80,u 81,u 82,u 83,u 84,u 85,u 86,u 87,u 88,u 89,u 90,u 91,u 92,u 93,u 94,u 95,u 96,u 97,u 98,u 99,u 100,u 101,u 102,u 103,u 104,u 105,u 106,u 107,u 108,u 109,u 110,u 111,u 112,u 113,u 114,u 115,u 116,u 117,u 118,u 119,u 120,u 121,u 122,u 123,u 124,(.slice Ao no co),(.int .i64 (no:Int)),(.int .i64 (k:Int)),u 128,u 129,u 130,u 131,u 132,u 133,u 134,u 135,u 136,u 137,u 138,u 139,u 140,u 141,u 142,u 143,u 144,u 145,u 146,u 147,u 148,u 149,u 150,u 151,u 152,u 153,u 154,u 155,u 156,u 157,u 158,u 159],defers:=marksOf ds }
theorem XeF6_mk {p6:Nat} {go n:Nat} {Ao:Option Addr} {no co k:Nat} {ds:List Nat} {u0 u1 u2 u3 u4 u5 u7 u8 u9 u10 u11 u12 u13 u14 u15 u16 u17 u19 u20 u21 u22 u23 u24 u25 u26 u27 u28 u29 u30 u31 u32 u33 u34 u35 u36 u37 u38 u39 u40 u41 u42 u43 u44 u45 u46 u47 u48 u49 u50 u51 u52 u53 u54 u55 u56 u57 u58 u59 u60 u61 u62 u63 u64 u65 u66 u67 u68 u69 u70 u71 u72 u73 u74 u75 u76 u77 u78 u79 u80 u81 u82 u83 u84 u85 u86 u87 u88 u89 u90 u91 u92 u93 u94 u95 u96 u97 u98 u99 u100 u101 u102 u103 u104 u105 u106 u107 u108 u109 u110 u111 u112 u113 u114 u115 u116 u117 u118 u119 u120 u121 u122 u123 u124 u128 u129 u130 u131 u132 u133 u134 u135 u136 u137 u138 u139 u140 u141 u142 u143 u144 u145 u146 u147 u148 u149 u150 u151 u152 u153 u154 u155 u156 u157 u158 u159:Value}:XeF6 p6 go n Ao no co k ds { tmps:=#[u0,u1,u2,u3,u4,u5,(.pointer (some ⟨p6,0,none⟩)),u7,u8,u9,u10,u11,u12,u13,u14,u15,u16,u17,(.slice (some ⟨go,0,none⟩) n n),u19,u20,u21,u22,u23,u24,u25,u26,u27,u28,u29,u30,u31,u32,u33,u34,u35,u36,u37,u38,u39,u40,u41,u42,u43,u44,u45,u46,u47,u48,u49,u50,u51,u52,u53,u54,u55,u56,u57,u58,u59,u60,u61,u62,u63,u64,u65,u66,u67,u68,u69,u70,u71,u72,u73,u74,u75,u76,u77,u78,u79,u80,u81,u82,u83,u84,u85,u86,u87,u88,u89,u90,u91,u92,u93,u94,u95,u96,u97,u98,u99,u100,u101,u102,u103,u104,u105,u106,u107,u108,u109,u110,u111,u112,u113,u114,u115,u116,u117,u118,u119,u120,u121,u122,u123,u124,(.slice Ao no co),(.int .i64 (no:Int)),(.int .i64 (k:Int)),u128,u129,u130,u131,u132,u133,u134,u135,u136,u137,u138,u139,u140,u141,u142,u143,u144,u145,u146,u147,u148,u149,u150,u151,u152,u153,u154,u155,u156,u157,u158,u159],defers:=marksOf ds }:=⟨fun i=>[u0,u1,u2,u3,u4,u5,undef,u7,u8,u9,u10,u11,u12,u13,u14,u15,u16,u17,undef,u19,u20,u21,u22,u23,u24,u25,u26,u27,u28,u29,u30,u31,u32,u33,u34,u35,u36,u37,u38,u39,u40,u41,u42,u43,u44,u45,u46,u47,u48,u49,u50,u51,u52,u53,u54,u55,u56,u57,u58,u59,u60,u61,u62,u63,u64,u65,u66,u67,u68,u69,u70,u71,u72,u73,u74,u75,u76,u77,u78,u79,u80,u81,u82,u83,u84,u85,u86,u87,u88,u89,u90,u91,u92,u93,u94,u95,u96,u97,u98,u99,u100,u101,u102,u103,u104,u105,u106,u107,u108,u109,u110,u111,u112,u113,u114,u115,u116,u117,u118,u119,u120,u121,u122,u123,u124,undef,undef,undef,u128,u129,u130,u131,u132,u133,u134,u135,u136,u137,u138,u139,u140,u141,u142,u143,u144,u145,u146,u147,u148,u149,u150,u151,u152,u153,u154,u155,u156,u157,u158,u159].getD i undef,rfl⟩
def XeF8 (p6:Nat) (Aa:Option Addr) (ca go n k:Nat) (ds:List Nat) (a:Act):Prop:=∃ u:Nat→Value,a={ tmps:=#[u 0,u 1,u 2,u 3,u 4,u 5,(.pointer (some ⟨p6,0,none⟩)),u 7,u 8,u 9,u 10,u 11,u 12,u 13,u 14,u 15,u 16,u 17,u 18,u 19,u 20,u 21,u 22,u 23,u 24,(.slice Aa k ca),u 26,u 27,u 28,u 29,u 30,u 31,u 32,u 33,u 34,u 35,u 36,u 37,u 38,u 39,u 40,u 41,u 42,u 43,u 44,u 45,u 46,u 47,u 48,u 49,u 50,u 51,u 52,u 53,u 54,u 55,u 56,u 57,u 58,u 59,u 60,u 61,u 62,u 63,u 64,u 65,u 66,u 67,u 68,u 69,u 70,u 71,u 72,u 73,u 74,u 75,u 76,u 77,u 78,u 79,u 80,u 81,u 82,u 83,u 84,u 85,u 86,u 87,u 88,u 89,u 90,u 91,u 92,u 93,u 94,u 95,u 96,u 97,u 98,u 99,u 100,u 101,u 102,u 103,u 104,u 105,u 106,u 107,u 108,u 109,u 110,u 111,u 112,u 113,u 114,u 115,u 116,u 117,u 118,u 119,u 120,u 121,u 122,u 123,u 124,u 125,u 126,u 127,u 128,u 129,u 130,u 131,u 132,u 133,u 134,u 135,u 136,u 137,u 138,(.slice (some ⟨go,0,none⟩) n n),(.int .i64 (n:Int)),(.int .i64 (k:Int)),u 142,u 143,u 144,u 145,u 146,u 147,u 148,u 149,u 150,u 151,u 152,u 153,u 154,u 155,u 156,u 157,u 158,u 159],defers:=marksOf ds }
theorem XeF8_mk {p6:Nat} {Aa:Option Addr} {ca go n k:Nat} {ds:List Nat} {u0 u1 u2 u3 u4 u5 u7 u8 u9 u10 u11 u12 u13 u14 u15 u16 u17 u18 u19 u20 u21 u22 u23 u24 u26 u27 u28 u29 u30 u31 u32 u33 u34 u35 u36 u37 u38 u39 u40 u41 u42 u43 u44 u45 u46 u47 u48 u49 u50 u51 u52 u53 u54 u55 u56 u57 u58 u59 u60 u61 u62 u63 u64 u65 u66 u67 u68 u69 u70 u71 u72 u73 u74 u75 u76 u77 u78 u79 u80 u81 u82 u83 u84 u85 u86 u87 u88 u89 u90 u91 u92 u93 u94 u95 u96 u97 u98 u99 u100 u101 u102 u103 u104 u105 u106 u107 u108 u109 u110 u111 u112 u113 u114 u115 u116 u117 u118 u119 u120 u121 u122 u123 u124 u125 u126 u127 u128 u129 u130 u131 u132 u133 u134 u135 u136 u137 u138 u142 u143 u144 u145 u146 u147 u148 u149 u150 u151 u152 u153 u154 u155 u156 u157 u158 u159:Value}:XeF8 p6 Aa ca go n k ds { tmps:=#[u0,u1,u2,u3,u4,u5,(.pointer (some ⟨p6,0,none⟩)),u7,u8,u9,u10,u11,u12,u13,u14,u15,u16,u17,u18,u19,u20,u21,u22,u23,u24,(.slice Aa k ca),u26,u27,u28,u29,u30,u31,u32,u33,u34,u35,u36,u37,u38,u39,u40,u41,u42,u43,u44,u45,u46,u47,u48,u49,u50,u51,u52,u53,u54,u55,u56,u57,u58,u59,u60,u61,u62,u63,u64,u65,u66,u67,u68,u69,u70,u71,u72,u73,u74,u75,u76,u77,u78,u79,u80,u81,u82,u83,u84,u85,u86,u87,u88,u89,u90,u91,u92,u93,u94,u95,u96,u97,u98,u99,u100,u101,u102,u103,u104,u105,u106,u107,u108,u109,u110,u111,u112,u113,u114,u115,u116,u117,u118,u119,u120,u121,u122,u123,u124,u125,u126,u127,u128,u129,u130,u131,u132,u133,u134,u135,u136,u137,u138,(.slice (some ⟨go,0,none⟩) n n),(.int .i64 (n:Int)),(.int .i64 (k:Int)),u142,u143,u144,u145,u146,u147,u148,u149,u150,u151,u152,u153,u154,u155,u156,u157,u158,u159],defers:=marksOf ds }:=⟨fun i=>[u0,u1,u2,u3,u4,u5,undef,u7,u8,u9,u10,u11,u12,u13,u14,u15,u16,u17,u18,u19,u20,u21,u22,u23,u24,undef,u26,u27,u28,u29,u30,u31,u32,u33,u34,u35,u36,u37,u38,u39,u40,u41,u42,u43,u44,u45,u46,u47,u48,u49,u50,u51,u52,u53,u54,u55,u56,u57,u58,u59,u60,u61,u62,u63,u64,u65,u66,u67,u68,u69,u70,u71,u72,u73,u74,u75,u76,u77,u78,u79,u80,u81,u82,u83,u84,u85,u86,u87,u88,u89,u90,u91,u92,u93,u94,u95,u96,u97,u98,u99,u100,u101,u102,u103,u104,u105,u106,u107,u108,u109,u110,u111,u112,u113,u114,u115,u116,u117,u118,u119,u120,u121,u122,u123,u124,u125,u126,u127,u128,u129,u130,u131,u132,u133,u134,u135,u136,u137,u138,undef,undef,undef,u142,u143,u144,u145,u146,u147,u148,u149,u150,u151,u152,u153,u154,u155,u156,u157,u158,u159].getD i undef,rfl⟩
theorem lfN_take {n k o:Nat} {O:List Nat} (h:O[k]?=some o):lfN n (O.take (k+1))=mi (lfN n (O.take k)) (2 ^ o):=by
 rw[List.take_add_one,h,Option.toList_some,lfN_snoc]
theorem lfN_fit {n:Nat} (hn:n≤512) (O:List Nat):Fit (lfN n O):=fun i hi=>by rw[lfN_tb,decide_eq_false (by omega),Bool.false_and]
theorem wpListIn_make_full {F:Fence} {n:Nat} {P:Program} (w:World) {ops:Array Oper} {rest:List Oper} {o:Oper} {a:Act} {Q:Exit→Act→World→Prop}
  (hg:o.guard=none) (l c:Operand) (t:TypeId) (hop:o.op=Op.makeSlice t l c)
  (base:Nat) (e:TypeId) (i:TypeInfo) (z:Value) (size:Nat) (h1:P.underlying t=some (.slice e)) (h2:P.info? e=some i) (h3:i.zero=some z) (h4:i.size=size)
  (kl kc:IntKind) (L C:Int) (m:Nat) (hl:a.eval l=.int kl L) (hc:a.eval c=.int kc C) (hL:L=(m:Int)) (hC:C=(m:Int)) (b2:i.bytes * m≤281474976710656) (b3:m≤maxLen) (b4:base≤w.heap.size)
  (hK:∀ w',w'.ownsRow base e size (.slice (some ⟨w.heap.size,0,none⟩) m m) m (madeCells z.cells (m * size)).toList→w.grownBy w' none→wpListIn F n P ops Q rest (a.put o.dst (.slice (some ⟨w.heap.size,0,none⟩) m m)) w'):
  wpListIn F n P ops Q (o::rest) a w:=by
 refine wpListIn_plain hg fun K hK'=>?_
 obtain⟨w',hrun,r1,r2⟩:=run_make_full (P:=P) w base t e i z size h1 h2 h3 h4 kl kc m b2 b3 b4
 subst hL
 subst hC
 unfold Oper.wpIn
 refine⟨?_,?_⟩
 ·simp[Oper.about,hop]
 ·rw[Oper.semAt_plain F _ _ (by rw[hop];intro c hc';cases hc')]
  simp[execOp,hop,hl,hc,hrun,Result.andThen]
  exact hK' _ _ (hK w' r1 r2)
theorem row1_of_blk {W:World} {g t n:Nat} {xs:List Int} (h:Blk W g t (xs.map intV)) (hn:xs.length=n):Row1 intV W W.heap.size (some ⟨g,0,none⟩) n xs:=
 ⟨hn,fun _=>⟨g,0,rfl,h.lt,fun k x hk=>by rw[Nat.zero_add];exact h.cell (by rw[List.getElem?_map,hk];rfl)⟩⟩
def XgL (p6 tb go:Nat) (Ao:Option Addr) (no co:Nat) (Q:List Nat) (on:List Int):List Ent:=
 [.blk p6 85 [.pointer (some ⟨tb,0,none⟩)],.row (.slice Ao no co) 3 1 no ((Q.map fun o:Nat=>(o:Int)).map intV),.blk go 3 (on.map intV)]
def XeL (p6 tb p8 T:Nat) (Ao:Option Addr) (co:Nat) (O:List Nat):List Ent:=
 [.blk p6 85 [.pointer (some ⟨tb,0,none⟩)],.row (.slice Ao O.length co) 3 1 O.length ((O.map fun o:Nat=>(o:Int)).map intV),.blk p8 79 (tabL 8 (sC T))]
theorem rextend_any (ps:PrbS) (A:Option Addr) (n c:Nat) (l:List (Int×Int)) (w:World) (hT:Tab w) (ds:List Dom) (r:Rul) (hn:ps.nd≤9223372036854775807) (hd:∀ d∈ds,d.len≤9223372036854775807) (hm:n≤100000) (h:PrbAt w w.heap.size ps ds r) (hl:RowS 2 chC w w.heap.size A n l):
  Calls Tryz.prog 25 #[ps.val,.slice A n c] w (ChsPost (exR ds r l) w):=by
 have h4:tabN≤w.heap.size:=hT.1
 have HTW:=Lib.hid hT
 have HPV:=Lib.hid (fun (W:World) (hb:Below w.heap.size w W)=>pvalid_any ps W ds r hn hd ⟨h.1.keep hb,h.2.keep hb⟩)
 have HPL:=Lib.hid (fun (W:World) (hb:Below w.heap.size w W)=>pvl_any A n c W l (by omega) (hl.keep hb))
 have HAR:=Lib.hid (fun (hv:validP ds r=true) (W:World) (hb:Below w.heap.size w W)=>(by
  obtain⟨h1,h2,h3⟩:=prij hv
  exact arrange_any ps W ds r ⟨h.1.keep hb,h.2.keep hb⟩ h1 h2 h3:Calls Tryz.prog 42 #[ps.val] W (ArPost (ds.map Dom.say) r W)))
 have HPJ:Hid (validP ds r=true→PrI (ds.map Dom.say) r∧PrJ (ds.map Dom.say) r):=Lib.hid (fun hv=>by
  obtain⟨h1,h2,_⟩:=prij hv
  exact⟨h1,h2⟩)
 have HRS:=Lib.hid (fun (hv:validP ds r=true) (B:Option Addr) (m d:Nat) (W:World) (hb:Below w.heap.size w W) (hB:Row1 intV W W.heap.size B m (peelF (ds.map Dom.say) r).2) (hmm:m≤1000)=>(by
  have h1:=restrict_any ps B m d W ds r (peelF (ds.map Dom.say) r).2 hn hd (by omega) ⟨h.1.keep hb,h.2.keep hb⟩ hB
  unfold restF at h1
  rw[if_pos ⟨hv,core_ok hv⟩,if_pos (core_zero hv)] at h1
  refine h1.mono ?_
  rintro e w' ⟨s,es,rfl,hP,hs,hb'⟩
  dsimp only at hP hs
  have hvq:validP es (resR (stS (peelF (ds.map Dom.say) r).2) r)=true:=rest_valid hv hs
  have hq:=valid_st hvq
  have hdl2:∀ d∈es,d.len≤9223372036854775807:=fun d hd=>by
   have h2:d.chs.length=d.len:=(hP.at.1.2 d hd).1
   have:=hq.2.2.1 d hd
   omega
  refine⟨s,es,rfl,hP.at,by have:=hP.1;have:=hq.2.1;omega,hdl2,hvq,fun l=>?_,hb'⟩
  unfold fitC fineF
  rw[ok_say hs];rfl:Calls Tryz.prog 60 #[ps.val,.slice B m d] W (fun e w'=>∃ s es,e=.returned (.tuple #[PrbS.val s,.int .i64 0])∧PrbAt w' w'.heap.size s es (resR (stS (peelF (ds.map Dom.say) r).2) r)∧s.nd≤9223372036854775807∧(∀ d∈es,d.len≤9223372036854775807)∧validP es (resR (stS (peelF (ds.map Dom.say) r).2) r)=true∧(∀ l,fitC ds r l=(vlGo none l&&okF es (resR (stS (peelF (ds.map Dom.say) r).2) r) l true))∧Below W.heap.size W w')))
 have HFS:Hid (validP ds r=true→fitC ds r l=true→l.map Prod.fst=(peelF (ds.map Dom.say) r).2∧∀ x∈l,x.2∈chsOf (ds.map Dom.say) x.1):=Lib.hid (fun hv hf=>fine_start (vpr hv) hf)
 have HC0:Hid (validP ds r=true→∀ s,∀ c∈chsOf (ds.map Dom.say) s,c≠0):=Lib.hid (fun hv=>chs_ne (vpr hv))
 have HLW:=Lib.hid hl
 have HR0:Hid (∀ a b,validP ds r=a→vlGo none l=b→exR ds r l=if a=true∧b=true then (if fitC ds r l=true then (extF (ds.map Dom.say) r l,0) else ([],10)) else ([],(2:Int))):=Lib.hid (fun a b ha hb=>by unfold exR;rw[ha,hb])
 obtain⟨cI0,ci,cz0,cz1,cz2⟩:=info_parts ch_info
 obtain⟨i0,hi,hz0,hz1,hz2⟩:=info_parts int_info
 have HBL:=Lib.hid (fun m W hm=>below_in m W hm)
 have HRM:=Lib.hid (fun S i W hi=>remove_in S i W hi)
 have HA:=Lib.hid (fun T W=>all_any T W)
 unfold sV at HBL HRM HA
 generalize exR ds r l=RR at *
 generalize hvv:validP ds r=vv at *
 generalize hvl:vlGo none l=vl at *
 generalize hft:fitC ds r l=ft at *
 have HVL:=Eqn.mk hvl
 have HFT:=Eqn.mk hft
 generalize hD:ds.map Dom.say=D at *
 obtain⟨Ad,nd,cd,⟨A0,n0,c0',A1,n1,c1,A2,n2,c2⟩⟩:=ps
 unfold PrbS.val at *
 dsimp only at HPV HAR HRS ⊢
 clear h hl hvv hvl hft hD hn hd hT
 obtain⟨W0,hW0⟩:∃ W0,W0=w.alloc (.cells #[.slice Ad nd cd,.slice A0 n0 c0',.slice A1 n1 c1,.slice A2 n2 c2] 29):=⟨_,rfl⟩
 have hX0:Blk W0 w.heap.size 29 [.slice Ad nd cd,.slice A0 n0 c0',.slice A1 n1 c1,.slice A2 n2 c2]:=by rw[hW0];exact blk_new w _ _
 have hB0:Below w.heap.size w W0:=by rw[hW0];exact(Below.refl _ w).alloc (Nat.le_refl _) _
 have q0:=hX0.cell (i:=0) rfl
 have q1:=hX0.cell (i:=1) rfl
 have q2:=hX0.cell (i:=2) rfl
 have q3:=hX0.cell (i:=3) rfl
 have q4:=hX0.lt
 have HX0:=Lib.hid hX0
 have HB0:=Lib.hid hB0
 have HV1:=Lib.hid (HPV.out W0 hB0)
 clear hX0 hB0
 refine(callsIn_wide (n:=3)).1 ?_
 refine callsIn_of_wp_marks Tryz.func25 rfl trivial ?_ rfl
 simp only[Tryz.ntmps25,List.size_toArray,List.length_cons,List.length_nil,Nat.reduceAdd,Nat.reduceSub,Array.replicate_succ,Array.replicate_zero,List.push_toArray,List.append_toArray,List.nil_append,List.cons_append]
 gi_upto_region 1 with fail
 rw[←hW0]
 clear hW0
 cases vv with
 | false=>
  obtain rfl:RR=([],2):=HR0.out _ _ rfl rfl
  gi_wp2_with fail
  refine⟨trivial,(callsIn_wide.2 HV1.out).mono ?_⟩
  rintro e w1 ⟨rfl,hb1⟩
  have HB:=Lib.hid (HB0.out.trans (hb1.mono HB0.out.size))
  clear hb1
  gi_wp2_with fail
  refine⟨trivial,?_⟩
  gi_wp2_with fail
  show LeavesInM _ _ _ _ _ _ (marksOf []) .returning _
  refine hp_leaves (w:=w) (fun Y hY=>?_) [] _ _ ((Hp.start w).keep HB.out)
  exact⟨.tuple #[.slice none 0 0,.int .i64 2],by simp[results,Tryz.results25,go_sem],_,rfl,World.ownsRow_nil _ _ _ _,hY.below⟩
 | true=>
  cases vl with
  | false=>
   obtain rfl:RR=([],2):=HR0.out _ _ rfl rfl
   gi_wp2_with fail
   refine⟨trivial,(callsIn_wide.2 HV1.out).mono ?_⟩
   rintro e w1 ⟨rfl,hb1⟩
   have HB:=Lib.hid (HB0.out.trans (hb1.mono HB0.out.size))
   have HV2:=Lib.hid (HPL.out w1 HB.out)
   clear hb1
   gi_wp2_with fail
   refine⟨trivial,(callsIn_wide.2 HV2.out).mono ?_⟩
   rintro e w2 ⟨rfl,hb2⟩
   have HB2:=Lib.hid (HB.out.trans (hb2.mono HB.out.size))
   clear hb2
   gi_wp2_with fail
   show LeavesInM _ _ _ _ _ _ (marksOf []) .returning _
   refine hp_leaves (w:=w) (fun Y hY=>?_) [] _ _ ((Hp.start w).keep HB2.out)
   exact⟨.tuple #[.slice none 0 0,.int .i64 2],by simp[results,Tryz.results25,go_sem],_,rfl,World.ownsRow_nil _ _ _ _,hY.below⟩
  | true=>
   have hR3:RR=if ft=true then (extF D r l,0) else ([],10):=HR0.out _ _ rfl rfl
   have HRR:=Eqn.mk hR3
   obtain⟨hpI,hpJ⟩:=HPJ.out rfl
   have HPI:=Lib.hid hpI
   have HPJ2:=Lib.hid hpJ
   have hDl:=hpI.len
   clear hR3 HR0 hpI hpJ HPJ
   gi_wp2_with fail
   refine⟨trivial,(callsIn_wide.2 HV1.out).mono ?_⟩
   rintro e w1 ⟨rfl,hb1⟩
   have HB1:=Lib.hid (HB0.out.trans (hb1.mono HB0.out.size))
   have HX1:=Lib.hid (HX0.out.keep hb1)
   have HV2:=Lib.hid (HPL.out w1 HB1.out)
   clear hb1 q0 q1 q2 q3 q4
   gi_wp2_with fail
   refine⟨trivial,(callsIn_wide.2 HV2.out).mono ?_⟩
   rintro e w2 ⟨rfl,hb2⟩
   have HB2:=Lib.hid (HB1.out.trans (hb2.mono HB1.out.size))
   have HX2:=Lib.hid (HX1.out.keep hb2)
   have HAR1:=Lib.hid (HAR.out trivial w2 HB2.out)
   have q0:=HX2.out.cell (i:=0) rfl
   have q1:=HX2.out.cell (i:=1) rfl
   have q2:=HX2.out.cell (i:=2) rfl
   have q3:=HX2.out.cell (i:=3) rfl
   have q4:=HX2.out.lt
   clear hb2 HV1 HV2 HPV HPL HAR HX0 HX1 HB0 HB1
   gi_wp2_with fail
   refine⟨trivial,(callsIn_wide.2 HAR1.out).mono ?_⟩
   rintro e W ⟨tb,LK,rfl,hTB,hLK,hb3⟩
   have HBW:=Lib.hid (HB2.out.trans (hb3.mono HB2.out.size))
   have HXW:=Lib.hid (HX2.out.keep hb3)
   have HTB:=Lib.hid hTB
   have HLK:=Lib.hid hLK
   have hP0:=(Hp.start W).alloc1 (.pointer (some ⟨tb,0,none⟩)) 85
   obtain⟨V0,hV0⟩:∃ V,V=W.alloc (.cells #[.pointer (some ⟨tb,0,none⟩)] 85):=⟨_,rfl⟩
   rw[←hV0] at hP0
   have HPE:=Lib.hid (peel_any tb D LK r V0 (HTW.out.keep (HBW.out.trans (hP0.below.mono HBW.out.size))) (hTB.keep hP0.below) hLK HPI.out)
   have HP0:=Lib.hid hP0
   have h4W:tabN≤W.heap.size:=Nat.le_trans h4 HBW.out.size
   have c0:=hP0.c 0 0 rfl rfl;have f0:=hP0.f 0 rfl;have l0:=hP0.lt 0 rfl
   clear q0 q1 q2 q3 q4 hb3 hTB hLK hP0 HX2 HB2 HAR1
   gi_upto_region 4 with fail
   rw[←hV0]
   clear hV0
   gi_wp2_with fail
   refine⟨trivial,(callsIn_wide.2 HPE.out).mono ?_⟩
   rintro e w3 ⟨O,hO,hOl,hOn,vO,rfl,hown,hb4⟩
   have hP3:=HP0.out.pushRow hb4 hown
   obtain⟨Ao,co,rfl⟩:=hP3.form 1 rfl
   have HOO:=Lib.hid (And.intro hO (And.intro hOl hOn))
   have hO5:O.length≤512:=by have:=nat_len hOn hOl;omega
   have HP3:=Lib.hid hP3
   obtain⟨⟨As,Am,An,cs0,cm0,cn0,NV,hnv,t0,t1,t2,hr0,hr1,hr2,hr3⟩,_,ht,_⟩:=HTB.out
   have HT0:=Lib.hid (fun (X:World) (hb:Below W.heap.size W X)=>And.intro ((hb.cell (p:=⟨tb,0,none⟩) ht).trans t0) (And.intro (Nat.lt_of_lt_of_le ht hb.size) (hr0.keep hb)))
   obtain⟨u0,u1,_⟩:=HT0.out w3 hP3.below
   have HBL1:=Lib.hid (HBL.out D.length w3 hDl)
   clear hO hOl hOn hown hb4 hnv t0 t1 t2 hr0 hr1 hr2 hr3 HPE HP0 c0 f0 l0
   have c0:=hP3.c 0 0 rfl rfl;have f0:=hP3.f 0 rfl;have l0:=hP3.lt 0 rfl
   clear hP3
   gi_wp2_with fail
   refine⟨trivial,(callsIn_wide.2 HBL1.out).mono ?_⟩
   rintro e w4 ⟨rfl,hb4⟩
   have hP4:=(HP3.out.keep hb4).allocS (2 ^ D.length - 1) 79
   obtain⟨V4,hV4⟩:∃ V,V=w4.alloc (.cells (sL (2 ^ D.length - 1)).toArray 79):=⟨_,rfl⟩
   rw[←hV4] at hP4
   unfold sL at hV4
   have HP4:Hid (Hp W W V4 (XeL W.heap.size tb w4.heap.size (lfN D.length (O.take 0)) Ao co O) []):=Lib.hid hP4
   clear hP4 hb4 u0 u1 HP3 HBL1 c0 f0 l0
   gi_upto_region 6 with fail
   rw[←hV4]
   clear hV4
   generalize w4.heap.size=p8 at *
   generalize 2 ^ D.length - 1=U0 at *
   gi_wp2_with fail
   refine wpIn_loop_ghost (fun m a X=>∃ k:Nat,m=O.length - k∧k≤O.length∧XeF1 w.heap.size W.heap.size p8 A n c Ao O.length co k [] a∧Hp W X X (XeL W.heap.size tb p8 (lfN D.length (O.take k)) Ao co O) []) (O.length - 0) ?start ?round
   case start=>exact⟨0,rfl,Nat.zero_le _,XeF1_mk,HP4.out.rebase⟩
   case round=>
    clear HP4
    rintro m a X ⟨k,rfl,hk,⟨u,rfl⟩,hP⟩
    have HP:=Lib.hid hP
    by_cases hlt:k<O.length
    ·have j0:(k:Int)<(O.length:Int):=by omega
     have e1:IntKind.i64.wrap ((k:Int)+1)=(k:Int)+1:=IntWalk.i64_in _ (by omega)
     obtain⟨o,ho⟩:∃ o,O[k]?=some o:=⟨_,List.getElem?_eq_getElem hlt⟩
     have hol:o<D.length:=HOO.out.2.1 o (List.mem_of_getElem? ho)
     have HTT:=Eqn.mk (lfN_take (n:=D.length) ho)
     obtain⟨gO,co',eO,y0,_,lO⟩:=hP.at 1 k rfl (show ((O.map fun o:Nat=>(o:Int)).map intV)[k]?=some (.int .i64 (o:Int)) by rw[List.getElem?_map,List.getElem?_map,ho];rfl)
     injection eO with eO _ eOc
     subst eO eOc
     have hRM:=HRM.out (lfN D.length (O.take k)) (o:Int) X (by omega)
     rw[Int.toNat_natCast,←HTT.out] at hRM
     have HRM1:=Lib.hid hRM
     obtain⟨c2_0,c2_1,c2_2,c2_3,c2_4,c2_5,c2_6,c2_7⟩:=(hP.blk 2 rfl).eight;have f2:=hP.f 2 rfl;have l2:=hP.lt 2 rfl
     clear hP ho hRM
     generalize lfN D.length (O.take k)=T0 at *
     generalize hT1:lfN D.length (O.take (k+1))=T1 at *
     have HT1:=Eqn.mk hT1
     clear hT1
     gi_wp2_with fail
     refine⟨trivial,(callsIn_wide.2 (HRM1.out)).mono ?_⟩
     rintro e w5 ⟨rfl,hb5⟩
     have hP5:=HP.out.keep hb5
     clear y0 lO hb5 c2_0 c2_1 c2_2 c2_3 c2_4 c2_5 c2_6 c2_7 f2 l2
     obtain⟨c2_0,c2_1,c2_2,c2_3,c2_4,c2_5,c2_6,c2_7⟩:=(hP5.blk 2 rfl).eight;have f2:=hP5.f 2 rfl;have l2:=hP5.lt 2 rfl
     gi_upto_region 10 with fail
     obtain⟨V5,hV5⟩:∃ V,V=set8 w5 p8 T1:=⟨_,rfl⟩
     have hP6:Hp W X V5 (XeL W.heap.size tb p8 T1 (some ⟨gO,0,none⟩) co O) []:=by rw[hV5];exact hP5.set8 2 T1 rfl
     unfold set8 at hV5
     rw[←hV5]
     have HP6:=Lib.hid hP6
     clear hV5 hP5 hP6 c2_0 c2_1 c2_2 c2_3 c2_4 c2_5 c2_6 c2_7 f2 l2
     gi_wp2_with fail
     exact⟨O.length - (k+1),by omega,k+1,rfl,hlt,XeF1_mk,by rw[HT1.out];exact HP6.out.rebase⟩
    ·obtain rfl:k=O.length:=by omega
     have j0:¬((O.length:Nat):Int)<(O.length:Int):=by omega
     rw[List.take_length] at hP
     obtain⟨T,hTd⟩:∃ T,T=lfN D.length O:=⟨_,rfl⟩
     rw[←hTd] at hP
     have HTF:Hid (Fit T∧∀ x∈mem T,x<D.length):=Lib.hid ⟨by rw[hTd];exact lfN_fit hDl O,fun x hx=>by
      rw[hTd,lfN_mem hDl] at hx
      exact List.mem_range.1 (List.mem_filter.1 hx).1⟩
     have HKC:Hid ((mem T).map (stA D)=(peelF D r).2):=Lib.hid (by rw[hTd,lfN_mem hDl];exact kept_core HPI.out.nd HOO.out.1 HOO.out.2.1)
     have hP7:=(hP.alloc1 (.slice none 0 0) 32).nil 3 1
     obtain⟨V7,hV7⟩:∃ V,V=X.alloc (.cells #[.slice none 0 0] 32):=⟨_,rfl⟩
     rw[←hV7] at hP7
     have HP7:=Lib.hid hP7
     clear hTd hP HP
     obtain⟨c2_0,c2_1,c2_2,c2_3,c2_4,c2_5,c2_6,c2_7⟩:=(hP7.blk 2 rfl).eight;have f2:=hP7.f 2 rfl;have l2:=hP7.lt 2 rfl
     clear hP7
     gi_upto_region 12 with fail
     rw[←hV7]
     clear hV7
     generalize X.heap.size=p12 at *
     gi_wp2_with fail
     refine⟨trivial,(callsIn_wide.2 (HA.out T _)).mono ?_⟩
     rintro e WE ⟨rfl,hWE⟩
     have HPE:=Lib.hid (HP7.out.allocS T 79)
     rw[←hWE] at HPE
     clear hWE HP7 c2_0 c2_1 c2_2 c2_3 c2_4 c2_5 c2_6 c2_7 f2 l2
     generalize V7.heap.size=Bn at *
     gi_wp2_with fail
     refine hp_range (w:=W) (ds:=[]) (σ:=List Int×Value) (fun s=>(((XeL W.heap.size tb p8 T Ao co O++[.blk p12 32 [s.2]])++[.row s.2 3 1 s.1.length (s.1.map intV)])++[.blk Bn 79 (tabL 8 (sC T))]))
      (fun pre s=>s.1=(pre.map Fin.val).map (stA D)) (fun _ _ _=>False) 5 ?a₁ (by decide)
      (gf:=104) (lb:=#[.pointer (some ⟨Bn,0,none⟩)]) rfl (enters_of Tryz.func104 (by kernel_rfl) rfl) (all_stopsF D.length 2 (by decide) Bn W.heap.size T HTF.out.1 HTF.out.2 h4W WE (HPE.out.blk 5 rfl) (HTW.out.keep (HBW.out.trans (HPE.out.below.mono HBW.out.size)))) rfl (Nat.le_refl _) (fun _=>rfl) ([],.slice none 0 0) rfl HPE.out (fun _=>rfl) ?assign ?body ?done ?stop
     case assign=>
      intro l x X K hK
      gi_wp2
      exact hK
     case body=>
      rintro l' pre x X ⟨K,vK⟩ _ hR hX hlen
      dsimp only at hR hX
      obtain⟨AK,cK,rfl⟩:=hX.form 4 rfl
      have HX:=Lib.hid hX
      have hxn:=x.2
      have hKl:K.length≤512:=by
       rw[hR,List.length_map,List.length_map]
       have h1:=mem_len T
       omega
      have HSN:Hid ((((pre++[x]).map Fin.val).map (stA D))=K++[stA D x.1]):=Lib.hid (by rw[List.map_append,List.map_append,←hR];rfl)
      obtain⟨u0,u1,hrS⟩:=HT0.out X hX.below
      obtain⟨bs,os,eAs,hbs,hcs⟩:=hrS.2 (by omega)
      have y0:X.cell? ⟨bs,os+x.1,none⟩=some (.int .i64 (stA D x.1)):=hcs x.1 _ (by
       have e:D[x.1]?=some D[x.1]:=List.getElem?_eq_getElem hxn
       rw[stA_at e,List.getElem?_map,e];rfl)
      have HAS:=Eqn.mk eAs
      rw[eAs] at u0
      have c12:=hX.c 3 0 rfl rfl
      have l12:=hX.lt 3 rfl
      have f12:=hX.f 3 rfl
      have c0':=hX.c 0 0 rfl rfl
      have l0':=hX.lt 0 rfl
      have HCA:=Lib.hid (fun o=>(hX.drew.alloc0 o).c 3 0 rfl rfl)
      clear hX hR hrS hcs eAs
      generalize x.1=xn at *
      have j1:(xn:Int)<(D.length:Int):=by omega
      generalize stA D xn=sx at *
      gi_wp2_with fail
      refine Lx.regionTIn (C:=fun Z=>Z.cell? ⟨p12,0,none⟩=some (.slice AK K.length cK)) (C':=fun _=>True) (hs:=[0]) 10 (List.take 10 _) (List.drop 10 _) (List.take_append_drop 10 _).symm rfl (by kernel_rfl) (by kernel_rfl) (by kernel_rfl) (by kernel_rfl) c12 ?_
      simp only[List.take_succ_cons,List.take_zero,List.drop_succ_cons,List.drop_zero]
      repeat' (first
       | (refine Lx.lex_no (Lx.n1 rfl rfl rfl (by with_reducible rfl)) (fun K hK=>?_);go_simp;skip;refine hK _ ?_;clear hK K)
       | (refine Lx.lex_no (Lx.n0 rfl rfl rfl (by with_reducible rfl)) (fun K hK=>?_);go_simp;skip;refine hK _ ?_;clear hK K)
       | (refine Lx.lex_no (Lx.n2 rfl rfl rfl) (fun K hK=>?_);go_simp;skip;refine hK _ ?_;clear hK K)
       | (refine Lx.lex_pure (v:=?_) rfl (by first|exact Lx.w0 rfl | exact Lx.w1 rfl rfl rfl (by with_reducible rfl)) ?_ (fun K hK=>?_);rotate_left 1;(intro w' hCw;(try dsimp only at hCw);go_simp;first|done | with_reducible rfl);go_simp;skip;refine hK _ ?_;clear hK K)
       | (refine Lx.lex_read (v:=?_) rfl (by first|exact Lx.w0 rfl | exact Lx.w1 rfl rfl rfl (by with_reducible rfl)) ?_ (fun K hK=>?_);rotate_left 1;(go_simp;first|done | with_reducible rfl);go_simp;skip;refine hK _ ?_;clear hK K)
       | (refine Lx.lex_eff rfl (by first|exact Lx.w0 rfl | exact Lx.w1 rfl rfl rfl (by with_reducible rfl)) (fun K hK=>?_);go_simp;(first|fail | skip);refine hK _ _ (HCA.out _) ?_;clear hK K))
      refine Lx.lex_append rfl rfl _ _ 32 rfl W.heap.size 3 i0 (.int .i64 0) 1 8 Tryz.underlying32 hi hz0 hz1 hz2 rfl (by decide) _ _ _ rfl ((HX.out.drew.row 4 rfl).alloc _) ⟨X.heap.size,0,none⟩ 1 1 [.int .i64 sx] rfl rfl (cell_one_new _ _ _) (by simp[Value.oneCell']) (by unfold maxLen;omega) (by omega) (by have:=HX.out.drew.below.size;simp at this ⊢;omega) ?_
      intro v' w11 hown' hgrow hat
      have hP11:=(HX.out.drew.alloc0 _).grow 4 rfl hgrow hown' hat
      obtain⟨A11,q11,rfl⟩:=hP11.form 4 rfl
      refine⟨hP11.c 3 0 rfl rfl,?_⟩
      have HP12:Hid (Hp W X (w11.setCell ⟨p12,0,none⟩ (.slice A11 (K.length+1) q11)) (((XeL W.heap.size tb p8 T Ao co O++[.blk p12 32 [.slice A11 (K.length+1) q11]])++[.row (.slice A11 (K.length+1) q11) 3 1 (K++[sx]).length ((K++[sx]).map intV)])++[.blk Bn 79 (tabL 8 (sC T))]) []):=Lib.hid (by
       rw[List.length_append,List.map_append]
       exact hP11.set 3 0 (.slice A11 (K.length+1) q11) rfl)
      have c9':w11.cell? ⟨p12,0,none⟩=some (.slice AK K.length cK):=hP11.c 3 0 rfl rfl
      have f9:∀ o,w11.frozen? ⟨p12,o,none⟩=false:=hP11.f 3 rfl
      have l9:p12<w11.heap.size:=hP11.lt 3 rfl
      clear hP11 hown' hgrow hat
      refine Lx.lex_nil ⟨trivial,?_⟩
      go_simp
      repeat' (first
       | (refine Lx.lex_no (Lx.n1 rfl rfl rfl (by with_reducible rfl)) (fun K hK=>?_);go_simp;skip;refine hK _ ?_;clear hK K)
       | (refine Lx.lex_no (Lx.n0 rfl rfl rfl (by with_reducible rfl)) (fun K hK=>?_);go_simp;skip;refine hK _ ?_;clear hK K)
       | (refine Lx.lex_no (Lx.n2 rfl rfl rfl) (fun K hK=>?_);go_simp;skip;refine hK _ ?_;clear hK K)
       | (refine Lx.lex_pure (v:=?_) rfl (by first|exact Lx.w0 rfl | exact Lx.w1 rfl rfl rfl (by with_reducible rfl)) ?_ (fun K hK=>?_);rotate_left 1;(intro w' hCw;(try dsimp only at hCw);go_simp;first|done | with_reducible rfl);go_simp;skip;refine hK _ ?_;clear hK K)
       | (refine Lx.lex_read (v:=?_) rfl (by first|exact Lx.w0 rfl | exact Lx.w1 rfl rfl rfl (by with_reducible rfl)) ?_ (fun K hK=>?_);rotate_left 1;(go_simp;first|done | with_reducible rfl);go_simp;skip;refine hK _ ?_;clear hK K)
       | (refine Lx.lex_eff rfl (by first|exact Lx.w0 rfl | exact Lx.w1 rfl rfl rfl (by with_reducible rfl)) (fun K hK=>?_);go_simp;(first|skip);refine hK _ _ (trivial) ?_;clear hK K))
      all_goals (refine Lx.lex_nil ?_)
      gi_wp2_with fail
      exact⟨(K++[sx],.slice A11 (K.length+1) q11),HSN.out.symm,HP12.out⟩
     case done=>
      rintro Dm ys X ⟨K,vK⟩ hys hR hX
      dsimp only at hR hX
      have hys':ys.map Fin.val=mem T:=hys
      have hKl:K.length≤512:=by
       rw[hR,hys',List.length_map]
       exact mem_len T
      rw[hys',HKC.out] at hR
      obtain⟨AK,cK,rfl⟩:=hX.form 4 rfl
      have HKE:=Eqn.mk hR
      have hXB:=hX.below
      have HXX:=HXW.out.keep hXB
      have q0:=HXX.cell (i:=0) rfl
      have q1:=HXX.cell (i:=1) rfl
      have q2:=HXX.cell (i:=2) rfl
      have q3:=HXX.cell (i:=3) rfl
      have q4:=HXX.lt
      have hrK:Row1 intV X X.heap.size AK K.length (peelF D r).2:=by
       obtain⟨A',c',e',hr⟩:=row1_of_own (hX.row 4 rfl)
       injection e' with e1 e2 e3
       subst e1 e3
       rw[←HKE.out];exact hr
      have HRS1:=Lib.hid (HRS.out trivial AK K.length cK X (HBW.out.trans (hXB.mono HBW.out.size)) hrK (by omega))
      have HX:=Lib.hid (hX.sub (L':=[.blk W.heap.size 85 [.pointer (some ⟨tb,0,none⟩)],.row (.slice Ao O.length co) 3 1 O.length ((O.map fun o:Nat=>(o:Int)).map intV)]) (.cons_cons _ (.cons_cons _ (List.nil_sublist _))))
      have c12:=hX.c 3 0 rfl rfl
      have l12:=hX.lt 3 rfl
      clear hys hys' hR hX hXB HXX hrK HRS HKC
      gi_wp2_with fail
      refine⟨trivial,(callsIn_wide.2 HRS1.out).mono ?_⟩
      rintro e w5 ⟨sq,es,rfl,hPq,hnq,hdq,hvq,hfq,hb5⟩
      have hP5:=(HX.out.keep hb5).alloc [.slice sq.ad sq.nd sq.cd,.slice sq.rs.a0 sq.rs.n0 sq.rs.c0,.slice sq.rs.a1 sq.rs.n1 sq.rs.c1,.slice sq.rs.a2 sq.rs.n2 sq.rs.c2] 29
      obtain⟨V5,hV5⟩:∃ V,V=w5.alloc (.cells #[.slice sq.ad sq.nd sq.cd,.slice sq.rs.a0 sq.rs.n0 sq.rs.c0,.slice sq.rs.a1 sq.rs.n1 sq.rs.c1,.slice sq.rs.a2 sq.rs.n2 sq.rs.c2] 29):=⟨_,rfl⟩
      rw[show ([.slice sq.ad sq.nd sq.cd,.slice sq.rs.a0 sq.rs.n0 sq.rs.c0,.slice sq.rs.a1 sq.rs.n1 sq.rs.c1,.slice sq.rs.a2 sq.rs.n2 sq.rs.c2]:List Value).toArray=#[.slice sq.ad sq.nd sq.cd,.slice sq.rs.a0 sq.rs.n0 sq.rs.c0,.slice sq.rs.a1 sq.rs.n1 sq.rs.c1,.slice sq.rs.a2 sq.rs.n2 sq.rs.c2] from rfl,←hV5] at hP5
      have hb55:Below w5.heap.size w5 V5:=by rw[hV5];exact(Below.refl _ w5).alloc (Nat.le_refl _) _
      have HCK:=chk_any sq A n c V5 es _ l hm hnq hdq (HLW.out.keep (HBW.out.trans (hP5.below.mono HBW.out.size))) ⟨hPq.1.keep hb55,hPq.2.keep hb55⟩ HVL.out hvq
      have hok:=hfq l
      rw[HFT.out,HVL.out,Bool.true_and] at hok
      rw[←hok] at HCK
      unfold PrbS.val at HCK
      have HCK:=Lib.hid HCK
      have HP5:=Lib.hid hP5
      have z0:=hP5.c 2 0 rfl rfl
      have z1:=hP5.c 2 1 rfl rfl
      have z2:=hP5.c 2 2 rfl rfl
      have z3:=hP5.c 2 3 rfl rfl
      have z4:=hP5.lt 2 rfl
      clear hPq hnq hdq hvq hfq hb5 hb55 hP5 hok q0 q1 q2 q3 q4 c12 l12 HX HRS1
      gi_upto_region 16 with fail
      rw[←hV5]
      clear hV5
      gi_wp2_with fail
      refine⟨trivial,(callsIn_wide.2 HCK.out).mono ?_⟩
      rintro e w6 ⟨kv,av,rfl,hkv,hb6⟩
      have hP6:=(HP5.out.keep hb6).alloc [.int .i64 kv,.int .i64 av] 119
      obtain⟨V6,hV6⟩:∃ V,V=w6.alloc (.cells #[.int .i64 kv,.int .i64 av] 119):=⟨_,rfl⟩
      rw[show ([.int .i64 kv,.int .i64 av]:List Value).toArray=#[.int .i64 kv,.int .i64 av] from rfl,←hV6] at hP6
      have HP6:=Lib.hid hP6
      have z5:=hP6.c 3 0 rfl rfl
      have z6:=hP6.lt 3 rfl
      clear hb6 hP6 z0 z1 z2 z3 z4 HP5 HCK
      gi_upto_region 19 with fail
      rw[←hV6]
      clear hV6
      cases ft with
      | false=>
       obtain rfl:RR=([],10):=HRR.out
       have d0:(kv != 0)=true:=by
        rcases hkv with ⟨h,_⟩ | ⟨_,h⟩
        ·cases h
        ·simpa using h
       clear hkv
       gi_wp2_with fail
       show LeavesInM _ _ _ _ _ _ (marksOf [Dm]) .returning _
       refine hp_leaves (w:=W) (fun Y hY=>?_) [Dm] _ _ HP6.out
       exact⟨.tuple #[.slice none 0 0,.int .i64 10],by simp[results,Tryz.results25,go_sem],_,rfl,World.ownsRow_nil _ _ _ _,HBW.out.trans (hY.below.mono HBW.out.size)⟩
      | true=>
       have hRR:RR=(extF D r l,0):=HRR.out
       have HRR:=Eqn.mk hRR
       obtain⟨hl1,hl2⟩:=HFS.out trivial rfl
       have HL12:=Lib.hid (And.intro hl1 hl2)
       have HC00:=Lib.hid (HC0.out trivial)
       have d0:(kv != 0)=false:=by
        rcases hkv with ⟨_,h⟩ | ⟨h,_⟩
        ·simpa using h
        ·cases h
       obtain⟨u0,u1,_⟩:=HT0.out V6 HP6.out.below
       have hP6:=HP6.out.sub (L':=[.blk W.heap.size 85 [.pointer (some ⟨tb,0,none⟩)],.row (.slice Ao O.length co) 3 1 O.length ((O.map fun o:Nat=>(o:Int)).map intV)]) (.cons_cons _ (.cons_cons _ (List.nil_sublist _)))
       have HP6':=Lib.hid hP6
       have c0:=hP6.c 0 0 rfl rfl;have f0:=hP6.f 0 rfl;have l0:=hP6.lt 0 rfl
       clear hkv hRR hl1 hl2 hP6 HFS HC0
       gi_wp2_with (gi_at_make;refine wpListIn_make_full _ rfl _ _ 32 rfl W.heap.size 3 i0 (.int .i64 0) 1 Tryz.underlying32 hi hz0 hz1 .i64 .i64 _ _ D.length rfl rfl rfl rfl (by rw[hz2];omega) (by unfold maxLen;omega) HP6'.out.below.size ?_;intro w7 hown hgrow;rw[made_ints] at hown;have HP7:=Lib.hid (HP6'.out.made hown hgrow (Nat.le_refl _));clear hown hgrow)
       generalize V6.heap.size=go at *
       have hln:l.length=n:=HLW.out.1
       have HLN:=Eqn.mk hln
       have HND:Hid ((l.map Prod.fst).Nodup∧∀ x∈l,x.1∈D.map Prod.fst):=Lib.hid (by
        have hsub:∃ q:Int→Bool,(peelF D r).2=(D.map Prod.fst).filter q:=(peelG_spec D r D.length [] (D.map Prod.fst)).1
        refine⟨by rw[HL12.out.1];obtain⟨q,e⟩:=hsub;rw[e];exact HPI.out.nd.filter q,fun x hx=>core_sub D r x.1 (by rw[←HL12.out.1];exact List.mem_map.2 ⟨x,hx,rfl⟩)⟩)
       clear hln u0 u1 z5 z6 d0 c0 f0 l0
       gi_wp2_with fail
       refine wpIn_loop_ghost (fun m a X=>∃ k:Nat,m=n - k∧k≤n∧XeF4 W.heap.size Ao O.length co go D.length A n c k [Dm] a∧Hp W X X (XgL W.heap.size tb go Ao O.length co O (onL D (l.take k))) [Dm]) (n - 0) ?start4 ?round4
       case start4=>exact⟨0,rfl,Nat.zero_le _,XeF4_mk,by rw[List.take_zero,onL_nil];exact HP7.out.rebase⟩
       case round4=>
        clear HP7 HP6 HP6'
        rintro m a X ⟨k,rfl,hk,⟨u,rfl⟩,hP⟩
        have HP:=Lib.hid hP
        by_cases hlt:k<n
        ·have j0:(k:Int)<(n:Int):=by omega
         have e1:IntKind.i64.wrap ((k:Int)+1)=(k:Int)+1:=IntWalk.i64_in _ (by omega)
         obtain⟨x,hx⟩:∃ x,l[k]?=some x:=⟨_,List.getElem?_eq_getElem (by rw[HLN.out];exact hlt)⟩
         have hxm:=List.mem_of_getElem? hx
         obtain⟨bl,ol,eA,hbl,hcl⟩:=(HLW.out.keep (HBW.out.trans (hP.below.mono HBW.out.size))).2 (by omega)
         have y0:X.cell? ⟨bl,ol+k * 2,none⟩=some (.int .i64 x.1):=hcl k x hx 0 (by decide)
         have y1:X.cell? ⟨bl,ol+k * 2+1,none⟩=some (.int .i64 x.2):=hcl k x hx 1 (by decide)
         obtain⟨i,hi⟩:∃ i,ixF D x.1=some i:=by
          cases h:ixF D x.1 with
          | none=>exact absurd (HND.out.2 x hxm) (ixF_none.1 h)
          | some i=>exact⟨i,rfl⟩
         obtain⟨hil,his⟩:=ixF_lt hi
         have HTK:Hid (onL D (l.take (k+1))=(onL D (l.take k)).set i x.2):=Lib.hid (by
          rw[List.take_add_one,hx,Option.toList_some]
          have hns:stA D i∉(l.take k).map Prod.fst:=by
           rw[his]
           intro hm
           have hnd:=HND.out.1
           rw[←List.take_append_drop k l,List.map_append,List.nodup_append] at hnd
           have hkx:x.1∈(l.drop k).map Prod.fst:=by
            obtain⟨h1,h2⟩:=List.getElem?_eq_some_iff.1 hx
            rw[List.drop_eq_getElem_cons h1,h2];simp
           exact hnd.2.2 _ hm _ hkx rfl
          have:=onL_snoc HPI.out.nd (c:=x.2) hil hns
          rw[his] at this
          exact this)
         have hPV:=hP.alloc [.int .i64 x.1,.int .i64 x.2] 75
         obtain⟨V9,hV9⟩:∃ V,V=X.alloc (.cells #[.int .i64 x.1,.int .i64 x.2] 75):=⟨_,rfl⟩
         rw[show ([.int .i64 x.1,.int .i64 x.2]:List Value).toArray=#[.int .i64 x.1,.int .i64 x.2] from rfl,←hV9] at hPV
         have HAT:=at_any x.1 tb D LK V9 (HTB.out.keep hPV.below) HPJ2.out.st hDl
         rw[hi] at HAT
         dsimp only[atR,Option.isSome] at HAT
         have HAT:=Lib.hid HAT
         have hsz:=onL_at (pl:=l.take k) hil
         have z0:=hPV.c 3 0 rfl rfl
         have z1:=hPV.c 3 1 rfl rfl
         have z2:=hPV.lt 3 rfl
         have y2:=hPV.cI 2 i rfl hsz
         have f2:=hPV.f 2 rfl
         have l2:=hPV.lt 2 rfl
         have c0:=hPV.c 0 0 rfl rfl;have f0:=hPV.f 0 rfl;have l0:=hPV.lt 0 rfl
         have HPV:=Lib.hid hPV
         have j2:(i:Int)<(D.length:Int):=by omega
         obtain⟨xs,xc⟩:=x
         dsimp only at y0 y1 z0 z1 hV9 HTK HAT
         generalize onF (l.take k) (stA D i)=oo at *
         generalize onL D (l.take k)=L0 at *
         clear hP hx hxm hcl hi his hPV hsz
         rw[eA]
         clear eA
         gi_upto_region 25 with fail
         rw[←hV9]
         clear hV9 y0 y1
         gi_wp2_with fail
         refine⟨trivial,(callsIn_wide.2 HAT.out).mono ?_⟩
         rintro e w9 ⟨rfl,rfl⟩
         gi_wp2_with fail
         refine⟨n - (k+1),by omega,k+1,rfl,hlt,XeF4_mk,?_⟩
         rw[HTK.out]
         exact((HPV.out.setI 2 i xc rfl).sub (List.sublist_append_left _ _)).rebase
        ·obtain rfl:k=n:=by omega
         have j0:¬((k:Nat):Int)<(k:Int):=by omega
         rw[List.take_of_length_le (by rw[HLN.out];exact Nat.le_refl _)] at hP
         have HRV:=Lib.hid (hP.rev 1 rfl (by rw[List.length_map]) (by omega))
         clear hP HP
         gi_wp2_with fail
         refine⟨trivial,(callsIn_wide.2 HRV.out).mono ?_⟩
         rintro e w9 ⟨rfl,hP9⟩
         have HP9:Hid (Hp W X w9 (XgL W.heap.size tb go Ao O.length co O.reverse (onL D (plK D r l O 0))) [Dm]):=Lib.hid (by
          unfold XgL
          rw[List.map_reverse]
          exact hP9)
         clear hP9 HRV
         gi_wp2_with fail
         refine wpIn_loop_ghost (fun m a X=>∃ q:Nat,m=O.length - q∧q≤O.length∧XeF6 W.heap.size go D.length Ao O.length co q [Dm] a∧Hp W X X (XgL W.heap.size tb go Ao O.length co O.reverse (onL D (plK D r l O q))) [Dm]) (O.length - 0) ?start6 ?round6
         case start6=>exact⟨0,rfl,Nat.zero_le _,XeF6_mk,HP9.out.rebase⟩
         case round6=>
          clear HP9
          rintro m a X ⟨q,rfl,hq,⟨u,rfl⟩,hP⟩
          have HP:=Lib.hid hP
          by_cases hql:q<O.length
          ·have j1:(q:Int)<(O.length:Int):=by omega
           have e1:IntKind.i64.wrap ((q:Int)+1)=(q:Int)+1:=IntWalk.i64_in _ (by omega)
           obtain⟨i,hi⟩:∃ i,O.reverse[q]?=some i:=⟨_,List.getElem?_eq_getElem (by rw[List.length_reverse];exact hql)⟩
           have hil:i<D.length:=HOO.out.2.1 i (List.mem_reverse.1 (List.mem_of_getElem? hi))
           have j2:(i:Int)<(D.length:Int):=by omega
           obtain⟨hs1,hs2,hs3,hs4,c,hs5,hs6⟩:=plK_step HPI.out.nd HC00.out HL12.out.1 HL12.out.2 HOO.out.1 hi
           have hc2:2≤c∧c≤51:=by
            have:=List.mem_of_find?_eq_some hs5
            rw[chA_of HPI.out.nd hil] at this
            exact(HPI.out.ch.at i).1 c this
           obtain⟨hf1,hf2,hf3⟩:=free_low HLK.out HPI.out hs1 hs2 hs3 hil hs5
           have hflt:frF LK (onL D (plK D r l O q)) (nbs LK i) (stS (chA D i))<18446744073709551616:=Nat.lt_of_le_of_lt (fr_lt _ _) (chs_lt64 (HPI.out.ch.at i).1)
           have hctz:=ctz_is hflt hf1 hf2 hf3
           have hFR:=free_any i tb (some ⟨go,0,none⟩) D.length D.length (onL D (plK D r l O q)) D LK X (HTW.out.keep (HBW.out.trans (hP.below.mono HBW.out.size))) (HTB.out.keep hP.below) hil (row1_of_blk (hP.blk 2 rfl) (onL_len _ _)) rfl (fun y hy=>by
            unfold onL at hy
            obtain⟨d,hd,rfl⟩:=List.mem_map.1 hy
            by_cases h0:onF (plK D r l O q) d.1=0
            ·exact .inl h0
            ·right
             have hm2:=hs3 _ (on_mem h0)
             obtain⟨d2,hd2,_,hd3⟩:=chs_mem hm2
             exact(HPI.out.ch d2 hd2).1 _ hd3) (fun y hy=>by
            obtain⟨h1,_,_,l2,h3,h4,_⟩:=HLK.out.nbr i y hil hy
            exact⟨h1,l2,h3,h4⟩) (by have:=HLK.out.len hil;omega) HPI.out.ch hf1
           rw[hctz,Int.toNat_of_nonneg (by omega)] at hFR
           have HFR:=Lib.hid hFR
           have HTK:Hid (onL D (plK D r l O (q+1))=(onL D (plK D r l O q)).set i c):=Lib.hid (by rw[hs6];exact onL_snoc HPI.out.nd hil hs4)
           have hsz:=onL_at (pl:=plK D r l O q) hil
           obtain⟨gO,co',eO,y0,_,lO⟩:=hP.at 1 q rfl (show ((O.reverse.map fun o:Nat=>(o:Int)).map intV)[q]?=some (.int .i64 (i:Int)) by rw[List.getElem?_map,List.getElem?_map,hi];rfl)
           injection eO with eO _ eOc
           subst eO eOc
           have c0:=hP.c 0 0 rfl rfl;have f0:=hP.f 0 rfl;have l0:=hP.lt 0 rfl
           clear hP hi hs1 hs2 hs3 hs4 hs5 hs6 hf1 hf2 hf3 hflt hctz hFR
           generalize onF (plK D r l O q) (stA D i)=oo at *
           generalize onL D (plK D r l O q)=L0 at *
           gi_wp2_with fail
           refine⟨trivial,(callsIn_wide.2 HFR.out).mono ?_⟩
           rintro e w9 ⟨rfl,hb9⟩
           have hP9:=HP.out.keep hb9
           have y2:=hP9.cI 2 i rfl hsz
           have f2:=hP9.f 2 rfl
           have l2:=hP9.lt 2 rfl
           have HP9:=Lib.hid hP9
           clear hb9 hP9 hsz y0 lO c0 f0 l0
           gi_wp2_with fail
           refine⟨O.length - (q+1),by omega,q+1,rfl,hql,XeF6_mk,?_⟩
           rw[HTK.out]
           exact(HP9.out.setI 2 i c rfl).rebase
          ·obtain rfl:q=O.length:=by omega
           have j1:¬((O.length:Nat):Int)<(O.length:Int):=by omega
           have hfull:=plK_full (l:=l) HOO.out.1
           have HXF:=Eqn.mk hfull
           have hP8:=hP.nil 75 2
           have HP8:=Lib.hid hP8
           clear hP HP hfull hP8
           generalize plK D r l O O.length=PL at *
           gi_wp2_with fail
           refine wpIn_loop_ghost (fun m a X=>∃(q:Nat) (Aa:Option Addr) (ca:Nat),m=D.length - q∧q≤D.length∧XeF8 W.heap.size Aa ca go D.length q [Dm] a∧Hp W X X (XgL W.heap.size tb go Ao O.length co O.reverse (onL D PL)++[.row (.slice Aa q ca) 75 2 q (flat 2 chC ((outF D PL).take q))]) [Dm]) (D.length - 0) ?start8 ?round8
           case start8=>exact⟨0,none,0,rfl,Nat.zero_le _,XeF8_mk,HP8.out.rebase⟩
           case round8=>
            clear HP8
            rintro m a X ⟨q,Aa,ca,rfl,hq,⟨u,rfl⟩,hP⟩
            have HP:=Lib.hid hP
            by_cases hql:q<D.length
            ·have j1:(q:Int)<(D.length:Int):=by omega
             have e1:IntKind.i64.wrap ((q:Int)+1)=(q:Int)+1:=IntWalk.i64_in _ (by omega)
             have y2:=hP.cI 2 q rfl (onL_at (pl:=PL) hql)
             have l2:=hP.lt 2 rfl
             obtain⟨u0,u1,hrS⟩:=HT0.out X hP.below
             obtain⟨bs,os,eAs,hbs,hcs⟩:=hrS.2 (by omega)
             have y0:X.cell? ⟨bs,os+q,none⟩=some (.int .i64 (stA D q)):=hcs q _ (by
              have e:D[q]?=some D[q]:=List.getElem?_eq_getElem hql
              rw[stA_at e,List.getElem?_map,e];rfl)
             rw[eAs] at u0
             have HOS:Hid ((outF D PL).take (q+1)=(outF D PL).take q++[(stA D q,onF PL (stA D q))]):=Lib.hid (by rw[List.take_add_one,onL_out D PL hql];rfl)
             have c0:=hP.c 0 0 rfl rfl;have f0:=hP.f 0 rfl;have l0:=hP.lt 0 rfl
             clear hP hrS hcs eAs
             generalize onF PL (stA D q)=oo at *
             generalize stA D q=sq2 at *
             gi_wp2_with (gi_at_builtin;go_loud (refine wpListIn_append_own_at _ rfl _ _ 53 rfl W.heap.size 75 cI0 (.agg #[.int .i64 0,.int .i64 0]) 2 16 Tryz.underlying53 ci cz0 cz1 cz2 rfl (by decide) _ _ _ rfl ((HP.out.row 3 rfl).alloc _) ⟨X.heap.size,0,none⟩ 1 1 [.int .i64 sq2,.int .i64 oo] rfl rfl (cells_newR X [.int .i64 sq2,.int .i64 oo] 75) (by simp[Value.oneCell']) (by unfold maxLen;omega) (by omega) (by have:=HP.out.below.size;simp;omega) ?_);intro v8 w8 hown' hgrow _ hat;have HP8:=Lib.hid ((HP.out.alloc0 _).grow 3 rfl hgrow hown' hat);obtain⟨A8,cp8,rfl⟩:=HP8.out.form 3 rfl;clear hown' hgrow hat)
             refine⟨D.length - (q+1),by omega,q+1,A8,cp8,rfl,hql,XeF8_mk,?_⟩
             rw[HOS.out,flat_snoc]
             exact HP8.out.rebase
            ·obtain rfl:q=D.length:=by omega
             have j1:¬((D.length:Nat):Int)<(D.length:Int):=by omega
             have HLE:Hid ((outF D PL).take D.length=outF D PL∧(outF D PL).length=D.length):=Lib.hid (by
              have h1:(outF D PL).length=D.length:=by unfold outF;rw[List.length_map]
              exact⟨List.take_of_length_le (by omega),h1⟩)
             clear hP
             gi_wp2_with fail
             show LeavesInM _ _ _ _ _ _ (marksOf [Dm]) .returning _
             refine hp_leaves (w:=W) (fun Y hY=>?_) [Dm] _ _ HP.out
             refine⟨.tuple #[.slice Aa D.length ca,.int .i64 0],by simp[results,Tryz.results25,go_sem],.slice Aa D.length ca,(by rw[HRR.out];rfl),?_,HBW.out.trans (hY.below.mono HBW.out.size)⟩
             have h1:=own_low (hY.row 3 rfl) HBW.out.size
             rw[HLE.out.1] at h1
             rw[HRR.out,←HXF.out]
             show World.ownsRow _ _ _ _ _ (outF D PL).length _
             rw[HLE.out.2]
             exact h1
     case stop=>
      rintro D c pre X _ _ h _
      exact h.elim
end Go.Proofs.YtjakdikhdndlgaaGreatDoor
