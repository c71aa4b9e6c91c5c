/- Gp: the seat's typed functions; each is the reading of its pure program (checked by the kernel). -/
import Derived.Test.YthhmbcblhgnelaaGreatDoorGpFFnOcc
import Derived.Test.YthhmbcblhgnelaaGreatDoorGpSh4
import Derived.Test.YthhmbcblhgnelaaGreatDoorShFnOcc
set_option linter.unusedVariables false
set_option linter.unusedSimpArgs false
set_option maxRecDepth 100000
namespace Gp.YthhmbcblhgnelaaGreatDoor
open Go Gp
abbrev As:=@Ann.seq
abbrev Ai:=@Ann.sis
abbrev Aq:=@Ann.nil
abbrev Ac:=@Ann.cond
abbrev Ab:=@Ann.block
abbrev Al:=@Ann.loop
abbrev i:=Ty.int
abbrev b:=Ty.bool
abbrev L:=@Ty.list
abbrev P:=@Ty.pair
abbrev S:=Ty.str
abbrev Az (a:Ann):Ann:=.seq (.sis []) a
abbrev o25:=P i (P i b)
abbrev o13:=P S (P S o25)
abbrev o1:=P i (P (L o13) (P (L (P S S)) o25))
abbrev o36:=P S (P i (P i (P b i)))
abbrev o2:=P S o36
abbrev o3:=Ac none true (Az Aq) Aq
abbrev o4:=P i (P i (P S S))
abbrev o52:=Az (Ac none true (As (Ai [L i,S]) Aq) Aq)
abbrev o5:=As o52 (As (Ai [L i,S,S]) Aq)
abbrev o6:=Ai [L o13,L (P S S),i]
abbrev o7:=Ac none true Aq (Az Aq)
abbrev o8:=Ai [P S o36]
abbrev o9:=Ai [L o13,L (P S S)]
abbrev o10:=Ai [P S (P S o25)]
abbrev o11:=Ac none true Aq (As (Ai [i]) Aq)
abbrev o12:=Ai [L (P S S)]
abbrev o14:=Ai [L (P i o1)]
abbrev o15:=Ai [i,i,L o4,i]
abbrev o16:=Ai [L (P i o1),i,L o2,i,L i,i]
abbrev o83:=As (Az (Az o3)) (Ai [])
abbrev o17:=As (Az (Ab (some (2,[])) true (As (Ai [i]) (Al 2 [i] [(0,2)] [[],[b]] (As (Az (As o7 (As (Ab (some (3,[])) true o83) (Ai [])))) (Ai [i])))))) (Az Aq)
abbrev o81:=Ai [b,b]
abbrev o18:=As o81 o3
abbrev o19:=Ai [L o2]
abbrev o20:=As (Ai [b]) o3
abbrev o21:=Ai [i,i]
abbrev o22:=Ai [P S S]
abbrev o23:=Ai [i,i,i]
abbrev o24:=Ai [L o2,L (P i o1)]
abbrev o92:=Ai [L (P i o1),i]
abbrev o37:=Ai [P i o1]
abbrev o38:=Ai [L (P S S),L (P S S)]
abbrev o49:=Ai [L (P i o1),L (P i o1)]
abbrev o26:=Az (Ab (some (8,[L (P i o1)])) false (As o92 (Al 8 [L (P i o1),i] [(0,8)] [[L (P i o1)]] (As (Az (As (Ac none true Aq (As o14 Aq)) (As (Ab (some (10,[L (P i o1)])) false (As (As o37 (As (Ai [L o13,L o13]) (As o38 o49))) o14)) (Ai [])))) o92))))
abbrev o27:=As Aq (Ai [i])
abbrev o28:=Az (Ai [i])
abbrev o29:=Ai [i,L o2,L (P i o1),L i,L i,i]
abbrev o30:=Ai [i,L o2,L (P i o1),L i,L i]
abbrev o31:=As (Ai [b]) Aq
abbrev o32:=As (Az o3) (Az Aq)
abbrev o33:=Ai [L (P S S),i]
abbrev o34:=Ac none true Aq (As o19 Aq)
abbrev o35:=Ac none true Aq (As o12 Aq)
abbrev o39:=Ac none true Aq (As (Ai [L o25]) Aq)
abbrev o40:=Ai [L o25,L (P S S),i]
abbrev o41:=Ai [L o2,L (P S S),i]
abbrev o42:=As Aq (Ai [b])
abbrev o43:=As (Az (Ac none true (As (Ai [L S]) Aq) Aq)) (As (Ai [L S]) Aq)
abbrev o58:=Ai [L i,L i]
abbrev o44:=Az (As (Az o3) (As o14 (As o14 (As o58 (Az Aq)))))
abbrev o45:=As (Ai [L o13,L (P i o1),L o13,L o13,L (P i o1)]) (Az Aq)
abbrev o46:=Ai [i,i,L o4,i,i,i,S,S]
abbrev o47:=As (Ai [b,b,b]) o3
abbrev o48:=Ai [L o2,L (P S S)]
abbrev o50:=Ac none true Aq (As o9 Aq)
abbrev o51:=Ac (some (6,[i,i])) false (Az o21) (Az o21)
abbrev o53:=Ac none true Aq (As (Ai [i,L o2]) Aq)
abbrev o54:=Az (Ac (some (9,[i])) false o28 o27)
abbrev o55:=Az (Ac (some (3,[i])) false o28 o27)
abbrev o56:=Ai [S,L o13]
abbrev o57:=Ai [L o13,i]
abbrev o59:=Ai [L o2,i]
abbrev o60:=Az (Ac none true (Az Aq) (Az o3))
abbrev o61:=As Aq o23
abbrev o62:=Ai [i,L o2,L o13,L (P S S),i]
abbrev o63:=Ai [i,L (P S S)]
abbrev o64:=Ai [L o25,L o25]
abbrev o65:=As (Ai [b,b,b,b,b,b,b]) o3
abbrev o66:=Az (Ai [b])
abbrev o67:=Ai [L o13,L (P S S),L o25,i]
abbrev o68:=As (Ai [b,b,b,b,b,b]) o3
abbrev o69:=Ai [i,L o2,L (P i o1),L i]
abbrev o70:=Az (Ai [])
abbrev o71:=Ai [S,S,i,i,b,i,L o13]
abbrev o72:=Ai [L o13,L (P S S),L o25]
abbrev o73:=Ai [L (P S S),L (P S S),i]
abbrev o74:=As o14 (Az Aq)
abbrev o75:=As o10 (Az o3)
abbrev o76:=Ai [L o13,L (P S S),i,i]
abbrev o77:=Ai [L (P i o1),i,L o2,i]
abbrev o78:=Ai [L (P i b)]
abbrev o79:=Ac none true Aq (As o30 Aq)
abbrev o80:=Ai [i,L o2,L (P S S),i]
abbrev o82:=Ai [L o2,L (P i o1),i]
abbrev o84:=Ai [P i (P i (P S S))]
abbrev o85:=Ai [L i]
abbrev o86:=Ai [i,i,L o4,i,i]
abbrev o87:=Ai [L o25,L (P S S)]
abbrev o88:=Ai [i,L (P S S),i]
abbrev o89:=Ai [L o25,L o13,i]
abbrev o90:=Az (Az Aq)
abbrev o91:=As o19 o19
abbrev o93:=Ai [L (P i b),i]
abbrev o94:=Ai [L (P S b),i]
def a0:Ann:=Az (Az (As o55 (Az (Az o32))))
noncomputable def f0:Fn:=⟨[L i,i,i],[i,i,i],fun a=>Sh.spec_l1Cur_next a.1 a.2.1 a.2.2⟩
def a1:Ann:=Az (As (Az o3) (Az (As (Az (Ac (some (7,[i,i,i])) false (Az o23) o61)) (Az Aq))))
noncomputable def f1:Fn:=⟨[L i,i,i,i],[i,i,i],fun a=>Sh.spec_l1Cur_pick a.1 a.2.1 a.2.2.1 a.2.2.2⟩
def a2:Ann:=Az (Az Aq)
noncomputable def f2:Fn:=⟨[L i,i,i,i],[i,i,b],fun a=>Sh.spec_l1Cur_one a.1 a.2.1 a.2.2.1 a.2.2.2⟩
def a3:Ann:=Az (Az Aq)
noncomputable def f3:Fn:=⟨[L i,i,i,L i],[i,i,i],fun a=>Sh.spec_l1Cur_among a.1 a.2.1 a.2.2.1 a.2.2.2⟩
def a4:Ann:=Az (Az Aq)
noncomputable def f4:Fn:=⟨[L i,i,i,L S],[i,i,S],fun a=>Sh.spec_l1Cur_of a.1 a.2.1 a.2.2.1 a.2.2.2⟩
def a5:Ann:=Az o43
noncomputable def f5:Fn:=⟨[L i,i,i],[i,i,S],fun a=>Sh.spec_l1Cur_key a.1 a.2.1 a.2.2⟩
def a6:Ann:=Az o43
noncomputable def f6:Fn:=⟨[L i,i,i],[i,i,S],fun a=>Sh.spec_l1Cur_value a.1 a.2.1 a.2.2⟩
def a7:Ann:=Az (Az (Az (Az (As (Az (Ac (some (9,[i,i,i])) false (Az o23) o61)) (As (Ab (some (12,[i,i,L o4])) false (As o86 (Al 12 [i,i,L o4,i,i] [(0,12)] [[i,i,L o4]] (As (As (Az (Ac none true Aq (As (Ai [i,i,L o4]) Aq))) (As (Ab (some (17,[i,i,L o4,i])) false (As (Az (As (Az (Ac (some (26,[i,i,i])) false (Az o23) o61)) (As (Az (Ab (some (32,[i,i,L o4,i,i,i,S,S])) false (As (As (Az (Ac (some (32,[b])) false o42 o66)) (Ac (some (33,[i,i,L o4,i,i,i,S,S])) false (As o70 o46) (As (As (Az (Ac (some (33,[b])) false o42 (As (Az (Ac (some (33,[b])) false o42 o66)) (Ai [b])))) (Ac (some (34,[i,i,L o4,i])) false (Az o15) (As (As (Az (Ac (some (34,[b])) false o42 o66)) (Ac (some (35,[i,i,L o4,i])) false (Az o15) (As (Az (Ac (some (35,[i,i,L o4,i])) false (Az o15) (As (Az (Ac (some (35,[i,i,L o4,i])) false (Az o15) (As (Az (Ac (some (35,[i,i,L o4,i])) false (Az o15) (As (Az (Ac (some (35,[i,i,L o4,i])) false (As (As (Ai [L o4,L o4]) (Ai [])) o15) (As (Az (Az (Ac (some (38,[i])) false o28 o27))) o15))) o15))) o15))) o15))) o15))) o15))) o46))) o46))) (As (Az (Ac (some (43,[i,i,i])) false (As o85 o23) o61)) (Ai [L o4,L o4]))))) o15)) (Ai []))) o86)))) (Az Aq))))))
noncomputable def f7:Fn:=⟨[L i,i,i],[i,i,L (P i (P i (P S S)))],fun a=>Sh.spec_l1Cur_steps a.1 a.2.1 a.2.2⟩
def a8:Ann:=Az (Az (Az (As (Az (Ac (some (7,[i,i,i])) false (As o85 o23) o61)) (Az Aq))))
noncomputable def f8:Fn:=⟨[L i],[i,L (P i (P i (P S S)))],fun a=>Sh.spec_DrawPlayStore a⟩
def a9:Ann:=Az o31
noncomputable def f9:Fn:=⟨[i,i,i],[b],fun a=>Sh.impl_in a.1 a.2.1 a.2.2⟩
def a10:Ann:=Az (As (Ai [L o2,L o2,L i,L i]) (As o26 (Az Aq)))
noncomputable def f10:Fn:=⟨[i,L (P S (P S (P i (P i (P b i))))),L (P i (P i (P (L (P S (P S (P i (P i b))))) (P (L (P S S)) (P i (P i b)))))),L i],[i,L (P S (P S (P i (P i (P b i))))),L (P i (P i (P (L (P S (P S (P i (P i b))))) (P (L (P S S)) (P i (P i b)))))),L i],fun a=>Sh.impl_copyStore a.1 a.2.1 a.2.2.1 a.2.2.2⟩
def a11:Ann:=Az o32
noncomputable def f11:Fn:=⟨[i],[S],fun a=>Sh.internal_strconv_small a⟩
def a12:Ann:=Az (As (Az (Ac none true (As o20 (Az (Az (As o55 (Az Aq))))) Aq)) (Az Aq))
noncomputable def f12:Fn:=⟨[i,i],[S],fun a=>Sh.internal_strconv_FormatInt a.1 a.2⟩
def a13:Ann:=Az (Az Aq)
noncomputable def f13:Fn:=⟨[i],[S],fun a=>Sh.internal_strconv_Itoa a⟩
def a14:Ann:=Az (Az Aq)
noncomputable def f14:Fn:=⟨[i],[S],fun a=>Sh.strconv_Itoa a⟩
def a15:Ann:=Az Aq
noncomputable def f15:Fn:=⟨[S,S],[S],fun a=>Sh.strings_Trim a.1 a.2⟩
def a16:Ann:=Az (As o81 Aq)
noncomputable def f16:Fn:=⟨[S],[b],fun a=>Sh.impl_isKey a⟩
def a17:Ann:=Az (As (Az (Ab (some (1,[])) true (As (Ai [i]) (Al 1 [i] [(0,1)] [[],[b]] (As (Az (As o7 (As (Ab (some (2,[])) true (As (Az o18) (Ai []))) (Ai [])))) (Ai [i])))))) (Az Aq))
noncomputable def f17:Fn:=⟨[S],[b],fun a=>Sh.impl_isValue a⟩
def a18:Ann:=Az Aq
noncomputable def f18:Fn:=⟨[S,S],[i],fun a=>Sh.strings_Compare a.1 a.2⟩
def a19:Ann:=Az (Az Aq)
noncomputable def f19:Fn:=⟨[S,S,S],[i],fun a=>Sh.impl_Running_writeAt_1 a.1 a.2.1 a.2.2⟩
def a20:Ann:=Az (Az (Az (As (Ab (some (2,[i])) false (As o21 (Al 2 [i,i] [(0,2)] [[i]] (As (As (Az o11) (Ab (some (4,[i,i])) false (As (Az (As o22 o51)) o21))) o21)))) (As (Ai [P S S,b]) Aq))))
noncomputable def f20:Fn:=⟨[L (P S S),S],[i,b],fun a=>Sh.slices_BinarySearchFunc__impl_Cell_impl_Cell_string a.1 a.2⟩
def a21:Ann:=Az (Az Aq)
noncomputable def f21:Fn:=⟨[L (P i (P i (P (L (P S (P S (P i (P i b))))) (P (L (P S S)) (P i (P i b)))))),i,S],[i,b],fun a=>Sh.impl_Running_writeAt a.1 a.2.1 a.2.2⟩
def a22:Ann:=Az (Az Aq)
noncomputable def f22:Fn:=⟨[S,S,i,i,b,i,S],[i],fun a=>Sh.impl_Store_at_1 a.1 a.2.1 a.2.2.1 a.2.2.2.1 a.2.2.2.2.1 a.2.2.2.2.2.1 a.2.2.2.2.2.2⟩
def a23:Ann:=Az (Az (Az (As (Ab (some (2,[i])) false (As o21 (Al 2 [i,i] [(0,2)] [[i]] (As (As (Az o11) (Ab (some (4,[i,i])) false (As (Az (As o8 o51)) o21))) o21)))) (As (Ai [P S o36,b]) Aq))))
noncomputable def f23:Fn:=⟨[L (P S (P S (P i (P i (P b i))))),S],[i,b],fun a=>Sh.slices_BinarySearchFunc__impl_Record_impl_Record_string a.1 a.2⟩
def a24:Ann:=Az (Az Aq)
noncomputable def f24:Fn:=⟨[i,L (P S (P S (P i (P i (P b i))))),L (P i (P i (P (L (P S (P S (P i (P i b))))) (P (L (P S S)) (P i (P i b)))))),L i,S],[i,b],fun a=>Sh.impl_Store_at a.1 a.2.1 a.2.2.1 a.2.2.2.1 a.2.2.2.2⟩
def a25:Ann:=Az (As (Az (Az o3)) (As (Az (Ab (some (8,[])) true (As o57 (Al 8 [L o13,i] [(0,8)] [[],[L (P i o1),S,i]] (As (Az (As o7 (As (Ab (some (10,[L o13])) true (As o75 (Ai [L o13]))) (Ai [])))) o57))))) (Az (As (Az (Az (Ac (some (10,[S,i,i,b])) true (As (As o8 (As (Az o3) (Ai []))) (Ai [S,i,i,b])) (As Aq (Ai [S,i,i,b]))))) (As (Az o3) o45)))))
noncomputable def f25:Fn:=⟨[i,L (P S (P S (P i (P i (P b i))))),L (P i (P i (P (L (P S (P S (P i (P i b))))) (P (L (P S S)) (P i (P i b)))))),L i,i,S],[L (P i (P i (P (L (P S (P S (P i (P i b))))) (P (L (P S S)) (P i (P i b)))))),S,i],fun a=>Sh.impl_Store_read a.1 a.2.1 a.2.2.1 a.2.2.2.1 a.2.2.2.2.1 a.2.2.2.2.2⟩
def a26:Ann:=Az Aq
noncomputable def f26:Fn:=⟨[L (P S S),i,L (P S S)],[L (P S S)],fun a=>Sh.slices_Insert__impl_Cell_impl_Cell a.1 a.2.1 a.2.2⟩
def a27:Ann:=Az Aq
noncomputable def f27:Fn:=⟨[L (P S (P S (P i (P i (P b i))))),i,L (P S (P S (P i (P i (P b i)))))],[L (P S (P S (P i (P i (P b i)))))],fun a=>Sh.slices_Insert__impl_Record_impl_Record a.1 a.2.1 a.2.2⟩
def a28:Ann:=Az (Az (As (Az (Ab (some (5,[i])) true (As o88 (Al 5 [i,L (P S S),i] [(0,5)] [[i],[L (P i o1),i,L o2,i]] (As (Az (As o11 (As (Ab (some (8,[i,L (P S S)])) true (As (As o22 (Az (Az (Ac (some (11,[i,L (P S S)])) true (Az o63) (As (Az o3) o63))))) o63)) (Ai [])))) o88))))) (As (Az o3) (As (Az (Ab (some (6,[L o2])) false (As o41 (Al 6 [L o2,L (P S S),i] [(2,6)] [[L o2]] (As (Az (As o34 (As (Ab (some (9,[L o2,L (P S S)])) false (As (As o22 (Az (As (Az (Ac (some (12,[L o2,L (P S S)])) false (As o19 o48) (As Aq o48))) o91))) o48)) (Ai [])))) o41))))) o74))))
noncomputable def f28:Fn:=⟨[i,L (P S (P S (P i (P i (P b i))))),L (P i (P i (P (L (P S (P S (P i (P i b))))) (P (L (P S S)) (P i (P i b)))))),L i,i],[L (P i (P i (P (L (P S (P S (P i (P i b))))) (P (L (P S S)) (P i (P i b)))))),i,L (P S (P S (P i (P i (P b i))))),i],fun a=>Sh.impl_Store_lock a.1 a.2.1 a.2.2.1 a.2.2.2.1 a.2.2.2.2⟩
def a29:Ann:=Az (Az Aq)
noncomputable def f29:Fn:=⟨[i],[b],fun a=>Sh.cmp_isNaN_int a⟩
def a30:Ann:=Az (Az (Az (As (Az (Ac none true o32 Aq)) (As (Az o3) (As (Az o3) o32)))))
noncomputable def f30:Fn:=⟨[i,i],[i],fun a=>Sh.cmp_Compare_int a.1 a.2⟩
def a31:Ann:=Az (Az (As (Az (Ab (some (1,[])) true (As (Ai [i]) (Al 1 [i] [(0,1)] [[],[i]] (As (Az (As o7 (As (Ab (some (2,[])) true o83) (Ai [])))) (Ai [i])))))) (Az Aq)))
noncomputable def f31:Fn:=⟨[L i],[i],fun a=>Sh.cmp_Or_int a⟩
def a32:Ann:=Az (As o85 Aq)
noncomputable def f32:Fn:=⟨[i,i,b,i,i,b],[i],fun a=>Sh.impl_compareTid a.1 a.2.1 a.2.2.1 a.2.2.2.1 a.2.2.2.2.1 a.2.2.2.2.2⟩
def a33:Ann:=As (As (Az (Ab (some (5,[L o2])) false (As o59 (Al 5 [L o2,i] [(0,5)] [[L o2]] (As (Az (As o34 (As (Ab (some (7,[L o2])) false (As (Az (Az (Ac (some (7,[L o2])) false (As o91 o19) (As Aq o19)))) o19)) (Ai [])))) o59))))) o14) Aq
noncomputable def f33:Fn:=⟨[i,L (P S (P S (P i (P i (P b i))))),L (P i (P i (P (L (P S (P S (P i (P i b))))) (P (L (P S S)) (P i (P i b)))))),L i,i],[L (P S (P S (P i (P i (P b i))))),L (P i (P i (P (L (P S (P S (P i (P i b))))) (P (L (P S S)) (P i (P i b))))))],fun a=>Sh.impl_Store_letGo a.1 a.2.1 a.2.2.1 a.2.2.2.1 a.2.2.2.2⟩
def a34:Ann:=Az o31
noncomputable def f34:Fn:=⟨[i,i,b],[b],fun a=>Sh.impl_isTid a.1 a.2.1 a.2.2⟩
def a35:Ann:=Az (As o20 (Az (As (Az (Ab (some (4,[i])) true (As o21 (Al 4 [i,i] [(0,4)] [[i],[i,i,b,b]] (As (Az (As o11 (As (Ab (some (6,[i])) true (As (As (Ai [P i (P i b)]) (As o20 o54)) (Ai [i]))) (Ai [])))) o21))))) o32)))
noncomputable def f35:Fn:=⟨[L (P i (P i b)),i],[i,i,b,b],fun a=>Sh.impl_NextTid a.1 a.2⟩
def a36:Ann:=Az (As (Ai [L o25]) (As (Az (Ab (some (6,[L o25])) true (As o89 (Al 6 [L o25,L o13,i] [(0,6)] [[L o25],[L o2,L (P i o1),i,L i,i]] (As (Az (As o39 (As (Ab (some (9,[L o25,L o13])) true (As (As o10 (Az (As (Az (Az (Ac (some (12,[S,S,i,i,b,i,L o13])) false (As o8 o71) (As Aq o71)))) (As (As o81 (Ac none true o90 Aq)) o64)))) (Ai [L o25,L o13]))) (Ai [])))) o89))))) (As (Az (Ab (some (7,[L o25])) false (As o40 (Al 7 [L o25,L (P S S),i] [(2,7)] [[L o25]] (As (Az (As o39 (As (Ab (some (10,[L o25,L (P S S)])) false (As (As o22 (Az (Ai [P S o36,L o25,L o25]))) o87)) (Ai [])))) o40))))) o44)))
noncomputable def f36:Fn:=⟨[i,L (P S (P S (P i (P i (P b i))))),L (P i (P i (P (L (P S (P S (P i (P i b))))) (P (L (P S S)) (P i (P i b)))))),L i,i],[L (P S (P S (P i (P i (P b i))))),L (P i (P i (P (L (P S (P S (P i (P i b))))) (P (L (P S S)) (P i (P i b)))))),i,L i,i],fun a=>Sh.impl_Store_check a.1 a.2.1 a.2.2.1 a.2.2.2.1 a.2.2.2.2⟩
def a37:Ann:=Az (As (Az (Ac none true (As (Ab (some (8,[])) true (As o60 (Ai []))) (Az (As o49 (Az Aq)))) Aq)) (As (Az o3) (Az (Az (As (Az (Ab (some (9,[i])) false (As (Az (Ac (some (9,[i])) false o28 (As o54 (Ai [i])))) (Ai [i])))) (As (Ai [b]) (As o65 (As (Az (Ab (some (21,[L o2,L (P i o1)])) true (As (Az (Ac none true (Az Aq) (Az (Ac (some (21,[L o2,L (P i o1)])) true (As (Az (Az (Ac (some (23,[L (P i o1)])) false (As (Ai [L (P i o1),L (P S S),L (P S S),L (P i o1)]) o14) (As (Ai [L (P S S),L (P i o1),L (P S S),L (P i o1)]) o14)))) o24) (As (Az (Ac none true (Az Aq) (Az (Ac none true (Az Aq) (Az (Ac (some (21,[L o2,L (P i o1)])) false (As (As (Az (Ab (some (21,[L o2])) false (As o41 (Al 21 [L o2,L (P S S),i] [(3,21)] [[L o2]] (As (Az (As o34 (As (Ab (some (24,[L o2,L (P S S)])) false (As (As o22 (Az (Ai [P i o1,L o2]))) o48)) (Ai [])))) o41))))) o14) o24) (As (Az (Ac (some (21,[L o2,L (P i o1)])) false (Az o24) (As Aq o24))) o24))))))) o24))))) o24))) (Az Aq)))))))))
noncomputable def f37:Fn:=⟨[i,L (P S (P S (P i (P i (P b i))))),L (P i (P i (P (L (P S (P S (P i (P i b))))) (P (L (P S S)) (P i (P i b)))))),L i,i,i,S,S],[i,L (P S (P S (P i (P i (P b i))))),L (P i (P i (P (L (P S (P S (P i (P i b))))) (P (L (P S S)) (P i (P i b)))))),L i,S,i],fun a=>Sh.impl_Store_do a.1 a.2.1 a.2.2.1 a.2.2.2.1 a.2.2.2.2.1 a.2.2.2.2.2.1 a.2.2.2.2.2.2.1 a.2.2.2.2.2.2.2⟩
def a38:Ann:=Az (Az (Az (As o20 (Az Aq))))
noncomputable def f38:Fn:=⟨[i,L (P S (P S (P i (P i (P b i))))),L (P i (P i (P (L (P S (P S (P i (P i b))))) (P (L (P S S)) (P i (P i b)))))),L i,i,i,S,S],[i,L (P S (P S (P i (P i (P b i))))),L (P i (P i (P (L (P S (P S (P i (P i b))))) (P (L (P S S)) (P i (P i b)))))),L i,S,i],fun a=>Sh.impl_doStep a.1 a.2.1 a.2.2.1 a.2.2.2.1 a.2.2.2.2.1 a.2.2.2.2.2.1 a.2.2.2.2.2.2.1 a.2.2.2.2.2.2.2⟩
def a39:Ann:=Az (As o20 (Az (As o85 (As (Az (Ab (some (5,[i,L o2,L (P i o1),L i,L i])) false (As o29 (Al 5 [i,L o2,L (P i o1),L i,L i,i] [(0,5)] [[i,L o2,L (P i o1),L i,L i]] (As (Az (As o79 (As (Ab (some (11,[i,L o2,L (P i o1),L i,L i])) false (As (As o84 (Az (Az o58))) o30)) (Ai [])))) o29))))) (Az Aq)))))
noncomputable def f39:Fn:=⟨[i,L (P i (P i (P S S)))],[i,L (P S (P S (P i (P i (P b i))))),L (P i (P i (P (L (P S (P S (P i (P i b))))) (P (L (P S S)) (P i (P i b)))))),L i,L i,b],fun a=>Sh.impl_PlayStore a.1 a.2⟩
def a40:Ann:=Az o31
noncomputable def f40:Fn:=⟨[i,i,i],[b],fun a=>Sh.spec_l1In a.1 a.2.1 a.2.2⟩
def a41:Ann:=Az (As (Ai [L o2,L o2]) (As o58 (Az (As o26 o90))))
noncomputable def f41:Fn:=⟨[i,L (P S (P S (P i (P i (P b i))))),L (P i (P i (P (L (P S (P S (P i (P i b))))) (P (L (P S S)) (P i (P i b)))))),L i],[i,L (P S (P S (P i (P i (P b i))))),L (P i (P i (P (L (P S (P S (P i (P i b))))) (P (L (P S S)) (P i (P i b)))))),L i],fun a=>Sh.spec_l5Own a.1 a.2.1 a.2.2.1 a.2.2.2⟩
def a42:Ann:=Az (As o52 (Az Aq))
noncomputable def f42:Fn:=⟨[i],[S],fun a=>Sh.spec_l1Num a⟩
def a43:Ann:=Az o5
noncomputable def f43:Fn:=⟨[i],[S],fun a=>Sh.spec_l1Num' a⟩
def a44:Ann:=Az o5
noncomputable def f44:Fn:=⟨[i],[S],fun a=>Sh.spec_l1Num'' a⟩
def a45:Ann:=Az o5
noncomputable def f45:Fn:=⟨[i],[S],fun a=>Sh.spec_l1Num''' a⟩
def a46:Ann:=Az o5
noncomputable def f46:Fn:=⟨[i],[S],fun a=>Sh.spec_l1Num'''' a⟩
def a47:Ann:=Az o5
noncomputable def f47:Fn:=⟨[i],[S],fun a=>Sh.spec_l1Num''''' a⟩
def a48:Ann:=Az o5
noncomputable def f48:Fn:=⟨[i],[S],fun a=>Sh.spec_l1Num'''''' a⟩
def a49:Ann:=Az o5
noncomputable def f49:Fn:=⟨[i],[S],fun a=>Sh.spec_l1Num''''''' a⟩
def a50:Ann:=Az o5
noncomputable def f50:Fn:=⟨[i],[S],fun a=>Sh.spec_l1Num'''''''' a⟩
def a51:Ann:=Az o32
noncomputable def f51:Fn:=⟨[i,L (P S (P S (P i (P i (P b i))))),L (P i (P i (P (L (P S (P S (P i (P i b))))) (P (L (P S S)) (P i (P i b)))))),L i,i],[i],fun a=>Sh.spec_l5State a.1 a.2.1 a.2.2.1 a.2.2.2.1 a.2.2.2.2⟩
def a52:Ann:=Az (As (Az (Ab (some (1,[])) true (As (Ai [i]) (Al 1 [i] [(0,1)] [[],[b]] (As (As (Az o7) (As (Ab (some (2,[])) true (As (Az o47) (Ai []))) (Ai []))) (Ai [i])))))) (Az Aq))
noncomputable def f52:Fn:=⟨[S],[b],fun a=>Sh.spec_l1Key a⟩
def a53:Ann:=Az (As (Az (Ab (some (1,[])) true (As (Ai [i]) (Al 1 [i] [(0,1)] [[],[b]] (As (As (Az o7) (As (Ab (some (2,[])) true (As o18 (Ai []))) (Ai []))) (Ai [i])))))) (Az Aq))
noncomputable def f53:Fn:=⟨[S],[b],fun a=>Sh.spec_l1Value a⟩
def a54:Ann:=Az (As (Az (Ab (some (5,[])) true (As (Ai [i]) (Al 5 [i] [(0,5)] [[],[S,S,i,i,b,i,b]] (As (Az (As o7 (As (Ab (some (6,[])) true (As (As o8 (Az o3)) (Ai []))) (Ai [])))) (Ai [i])))))) (Az Aq))
noncomputable def f54:Fn:=⟨[i,L (P S (P S (P i (P i (P b i))))),L (P i (P i (P (L (P S (P S (P i (P i b))))) (P (L (P S S)) (P i (P i b)))))),L i,S],[S,S,i,i,b,i,b],fun a=>Sh.spec_l5Find' a.1 a.2.1 a.2.2.1 a.2.2.2.1 a.2.2.2.2⟩
def a55:Ann:=Az (As o37 (As (Az (Ab (some (7,[L o13,L (P S S)])) true (As o6 (Al 7 [L o13,L (P S S),i] [(0,7)] [[L o13,L (P S S)],[L (P i o1),i,S,i]] (As (Az (As o50 (As (Ab (some (10,[L o13,L (P S S)])) true (As (As o22 (Az o3)) o9)) (Ai [])))) o6))))) (As (Az (Ab (some (9,[L o13,L (P S S)])) true (As o6 (Al 9 [L o13,L (P S S),i] [(2,9)] [[L o13,L (P S S)],[L (P i o1),i,S,i]] (As (Az (As o50 (As (Ab (some (12,[L o13,L (P S S)])) true (As o75 o9)) (Ai [])))) o6))))) (Az (As (Ab (some (18,[L o13,L (P S S)])) true (As o60 o9)) o45)))))
noncomputable def f55:Fn:=⟨[i,L (P S (P S (P i (P i (P b i))))),L (P i (P i (P (L (P S (P S (P i (P i b))))) (P (L (P S S)) (P i (P i b)))))),L i,i,S],[L (P i (P i (P (L (P S (P S (P i (P i b))))) (P (L (P S S)) (P i (P i b)))))),i,S,i],fun a=>Sh.spec_l5Read a.1 a.2.1 a.2.2.1 a.2.2.2.1 a.2.2.2.2.1 a.2.2.2.2.2⟩
def a56:Ann:=Az (Az (As (Ab (some (3,[i])) false (As (Ai [i]) (Al 3 [i] [(0,3)] [[i]] (As (As (As (Ai [b]) o11) (Ab (some (5,[])) false o70)) (Ai [i]))))) (Az (As o12 (As o38 (As (As (Ai [b]) (Ac (some (8,[i])) false o28 o27)) (As o12 Aq)))))))
noncomputable def f56:Fn:=⟨[L (P S S),S,S],[L (P S S)],fun a=>Sh.spec_l3Cells a.1 a.2.1 a.2.2⟩
def a57:Ann:=Az (Az (As (Ab (some (10,[i])) false (As (Ai [i]) (Al 10 [i] [(0,10)] [[i]] (As (As (As (Ai [b]) o11) (Ab (some (12,[])) false o70)) (Ai [i]))))) (Az (As o19 (As (Ai [L o2,L o2]) (As (As (Ai [b]) (Ac (some (15,[i])) false o28 o27)) (As o19 (Az Aq))))))))
noncomputable def f57:Fn:=⟨[i,L (P S (P S (P i (P i (P b i))))),L (P i (P i (P (L (P S (P S (P i (P i b))))) (P (L (P S S)) (P i (P i b)))))),L i,S,S,i,i,b,i],[i,L (P S (P S (P i (P i (P b i)))))],fun a=>Sh.spec_l5Put' a.1 a.2.1 a.2.2.1 a.2.2.2.1 a.2.2.2.2.1 a.2.2.2.2.2.1 a.2.2.2.2.2.2.1 a.2.2.2.2.2.2.2.1 a.2.2.2.2.2.2.2.2.1 a.2.2.2.2.2.2.2.2.2⟩
def a58:Ann:=Az (As o37 (Az (As (Az (Ab (some (6,[L o13,L (P S S),i])) true (As o76 (Al 6 [L o13,L (P S S),i,i] [(0,6)] [[L o13,L (P S S),i],[L (P i o1),i,L o2,i]] (As (Az (As (Ac none true Aq (As o6 Aq)) (As (Ab (some (10,[L o13,L (P S S),i])) true (As (As o22 (Az (As (Az o3) (Az (Ac (some (18,[L o13,L (P S S),i])) false (Az o6) (As Aq o6)))))) o6)) (Ai [])))) o76))))) (As (Az o3) (As (Az (Ab (some (9,[i,L o2])) false (As o80 (Al 9 [i,L o2,L (P S S),i] [(2,9)] [[i,L o2]] (As (Az (As o53 (As (Ab (some (13,[i,L o2,L (P S S)])) false (As (As o22 (Az (Az o70))) (Ai [i,L o2,L (P S S)]))) (Ai [])))) o80))))) o74)))))
noncomputable def f58:Fn:=⟨[i,L (P S (P S (P i (P i (P b i))))),L (P i (P i (P (L (P S (P S (P i (P i b))))) (P (L (P S S)) (P i (P i b)))))),L i,i],[L (P i (P i (P (L (P S (P S (P i (P i b))))) (P (L (P S S)) (P i (P i b)))))),i,L (P S (P S (P i (P i (P b i))))),i],fun a=>Sh.spec_l5Lock a.1 a.2.1 a.2.2.1 a.2.2.2.1 a.2.2.2.2⟩
def a59:Ann:=Az o90
noncomputable def f59:Fn:=⟨[i,i,b],[i,i,b],fun a=>Sh.spec_l5Plain a.1 a.2.1 a.2.2⟩
def a60:Ann:=Az (As (Az (Ab (some (5,[L o2])) false (As o59 (Al 5 [L o2,i] [(0,5)] [[L o2]] (As (Az (As o34 (As (Ab (some (7,[L o2])) false (As (As o8 (Az (Ac (some (8,[L o2])) false (As o91 o19) (As Aq o19)))) o19)) (Ai [])))) o59))))) o74)
noncomputable def f60:Fn:=⟨[i,L (P S (P S (P i (P i (P b i))))),L (P i (P i (P (L (P S (P S (P i (P i b))))) (P (L (P S S)) (P i (P i b)))))),L i,i],[L (P S (P S (P i (P i (P b i))))),L (P i (P i (P (L (P S (P S (P i (P i b))))) (P (L (P S S)) (P i (P i b)))))),i],fun a=>Sh.spec_l5Leave a.1 a.2.1 a.2.2.1 a.2.2.2.1 a.2.2.2.2⟩
def a61:Ann:=Az (As (Ab (some (6,[])) true (As (As o81 (Ac none true (Az Aq) o20)) (Ai []))) (Az Aq))
noncomputable def f61:Fn:=⟨[i,i,b,i,i,b],[i],fun a=>Sh.spec_l1Compare a.1 a.2.1 a.2.2.1 a.2.2.2.1 a.2.2.2.2.1 a.2.2.2.2.2⟩
def a62:Ann:=Az (Az (As (Az (Ab (some (2,[i,i])) false (As o23 (Al 2 [i,i,i] [(0,2)] [[i,i]] (As (Az (As (Ac none true Aq (As o21 Aq)) (As (Ab (some (5,[i,i])) false (As (As (Ai [P i (P i b)]) (Az (Ac (some (7,[i,i])) false (Az o21) (As Aq o21)))) o21)) (Ai [])))) o23))))) o31))
noncomputable def f62:Fn:=⟨[L (P i (P i b)),i],[i,i,b,b],fun a=>Sh.spec_l1Next a.1 a.2⟩
def a63:Ann:=Az (As o37 (Az (As (Az (Ab (some (6,[L o13,L (P S S),L o25])) true (As o67 (Al 6 [L o13,L (P S S),L o25,i] [(0,6)] [[L o13,L (P S S),L o25],[L o2,L (P i o1),i,i,i,L i,i]] (As (Az (As (Ac none true Aq (As o72 Aq)) (As (Ab (some (10,[L o13,L (P S S),L o25])) true (As (As o10 (Az (As o18 o64))) o72)) (Ai [])))) o67))))) (As (Az (Ab (some (9,[L o25])) false (As o40 (Al 9 [L o25,L (P S S),i] [(2,9)] [[L o25]] (As (Az (As o39 (As (Ab (some (12,[L o25,L (P S S)])) false (As (As o22 (Az o64)) o87)) (Ai [])))) o40))))) o44))))
noncomputable def f63:Fn:=⟨[i,L (P S (P S (P i (P i (P b i))))),L (P i (P i (P (L (P S (P S (P i (P i b))))) (P (L (P S S)) (P i (P i b)))))),L i,i],[L (P S (P S (P i (P i (P b i))))),L (P i (P i (P (L (P S (P S (P i (P i b))))) (P (L (P S S)) (P i (P i b)))))),i,i,i,L i,i],fun a=>Sh.spec_l5Check a.1 a.2.1 a.2.2.1 a.2.2.2.1 a.2.2.2.2⟩
def a64:Ann:=Az (As (Az (Ac none true (As (Az o3) (As (Az o3) (As o49 (Az Aq)))) Aq)) (Az (Az (As (Az (Ab (some (9,[i])) true (As (As (Az (Ac (some (9,[b])) false o42 (As (Az (Ac (some (9,[b])) false o42 o66)) (Ai [b])))) (Ac (some (10,[i])) true o27 (As (Az (Ac (some (10,[i])) true o28 (As (Az (Ac (some (10,[i])) true o28 (As (Az (Ac none true (Az (Ac (some (10,[i])) false o28 o27)) (Az Aq))) (Ai [i])))) (Ai [i])))) (Ai [i])))) (Ai [i])))) (As (As (Ai [b,b,b,b,b]) o3) (Az (As (Az (Ab (some (17,[L (P i o1),i,L o2,i,L i,i])) true (As (Az (Ac none true (Az Aq) (Az (Ac (some (17,[L (P i o1),i,L o2,i,L i,i])) false (As o14 o16) (As (Az (Ac (some (17,[L (P i o1),i,L o2,i,L i,i])) false (Az o16) (As (Az (Ac (some (17,[L (P i o1),i,L o2,i,L i,i])) false (Az o16) (As (Az (Ac (some (17,[L (P i o1),i,L o2,i])) false (As (As o37 (As (Az (Ab (some (18,[i,L o2])) false (As o62 (Al 18 [i,L o2,L o13,L (P S S),i] [(2,18)] [[i,L o2]] (As (Az (As o53 (As (Ab (some (23,[i,L o2,L o13,L (P S S)])) false (As (As o22 (Ai [])) (Ai [i,L o2,L o13,L (P S S)]))) (Ai [])))) o62))))) o14)) o77) (As (Az (Ac (some (17,[L o2,L (P i o1),i])) false (Az o82) (As Aq o82))) o77))) o16))) o16))) o16))))) o16))) (Az Aq))))))))
noncomputable def f64:Fn:=⟨[i,L (P S (P S (P i (P i (P b i))))),L (P i (P i (P (L (P S (P S (P i (P i b))))) (P (L (P S S)) (P i (P i b)))))),L i,i,i,S,S],[i,L (P S (P S (P i (P i (P b i))))),L (P i (P i (P (L (P S (P S (P i (P i b))))) (P (L (P S S)) (P i (P i b)))))),L i,S,i],fun a=>Sh.spec_l5Do a.1 a.2.1 a.2.2.1 a.2.2.2.1 a.2.2.2.2.1 a.2.2.2.2.2.1 a.2.2.2.2.2.2.1 a.2.2.2.2.2.2.2⟩
def a65:Ann:=Az (As o20 (Az (Az (As (Az (Ab (some (4,[i,L o2,L (P i o1),L i,L i])) false (As o29 (Al 4 [i,L o2,L (P i o1),L i,L i,i] [(0,4)] [[i,L o2,L (P i o1),L i,L i]] (As (Az (As o79 (As (Ab (some (10,[i,L o2,L (P i o1),L i,L i])) false (As (As o84 (Az (As (As (Ai [b]) (Ac (some (22,[i,L o2,L (P i o1),L i])) false (Az o69) (As Aq o69))) o58))) o30)) (Ai [])))) o29))))) (Az Aq)))))
noncomputable def f65:Fn:=⟨[i,L (P i (P i (P S S)))],[i,L (P S (P S (P i (P i (P b i))))),L (P i (P i (P (L (P S (P S (P i (P i b))))) (P (L (P S S)) (P i (P i b)))))),L i,L i,b],fun a=>Sh.spec_PlayStore a.1 a.2⟩
def a66:Ann:=Az (As (Az o3) o17)
noncomputable def f66:Fn:=⟨[L i,L i],[b],fun a=>Sh.laws_sameInts a.1 a.2⟩
def a67:Ann:=Az (Az Aq)
noncomputable def f67:Fn:=⟨[i,i,L (P S (P S (P i (P i b)))),L (P S S),i,i,b,S],[i,b],fun a=>Sh.impl_Running_writeAt' a.1 a.2.1 a.2.2.1 a.2.2.2.1 a.2.2.2.2.1 a.2.2.2.2.2.1 a.2.2.2.2.2.2.1 a.2.2.2.2.2.2.2⟩
def a68:Ann:=Az o31
noncomputable def f68:Fn:=⟨[i],[b],fun a=>Sh.impl_owns a⟩
def a69:Ann:=Az (As (Ai [b]) (As o68 (Az (As (Az (Ab (some (17,[])) true (As o94 (Al 17 [L (P S b),i] [(0,17)] [[],[b]] (As (Az (As o7 (As (Ab (some (19,[L (P S b)])) true (As (As o10 (As (As (Ai [b,b,b,b]) o3) (Ai [L (P S b)]))) (Ai [L (P S b)]))) (Ai [])))) o94))))) (As (Az (Ab (some (17,[])) true (As (Ai [i]) (Al 17 [i] [(2,17)] [[],[b]] (As (Az (As o7 (As (Ab (some (18,[])) true (As (As o22 o47) (Ai []))) (Ai [])))) (Ai [i])))))) (Az Aq))))))
noncomputable def f69:Fn:=⟨[i,i,L (P S (P S (P i (P i b)))),L (P S S),i,i,b,i],[b],fun a=>Sh.impl_isRunning a.1 a.2.1 a.2.2.1 a.2.2.2.1 a.2.2.2.2.1 a.2.2.2.2.2.1 a.2.2.2.2.2.2.1 a.2.2.2.2.2.2.2⟩
def a70:Ann:=Az (As o18 (Az (As (Az (Ab (some (7,[L (P i b)])) true (As o93 (Al 7 [L (P i b),i] [(0,7)] [[L (P i b)],[b]] (As (Az (As (Ac none true Aq (As o78 Aq)) (As (Ab (some (9,[L (P i b)])) true (As (Az (As o20 o78)) o78)) (Ai [])))) o93))))) (As (Az (Ab (some (8,[])) true (As (Ai [i]) (Al 8 [i] [(2,8)] [[],[b]] (As (Az (As o7 (As (Ab (some (9,[])) true (As (As o8 (As o65 (As (Az o3) (As o37 (Az o20))))) (Ai []))) (Ai [])))) (Ai [i])))))) (As (Az (Ab (some (8,[])) true (As (Ai [i]) (Al 8 [i] [(4,8)] [[],[b]] (As (Az (As o7 (As (Ab (some (9,[])) true (As (As o37 (As o18 (Az (Ab (some (13,[])) true (As o6 (Al 13 [L o13,L (P S S),i] [(6,13)] [[],[b]] (As (Az (As o7 (As (Ab (some (16,[])) true (As (As o22 (Az o18)) (Ai []))) (Ai [])))) o6))))))) (Ai []))) (Ai [])))) (Ai [i])))))) (Az Aq))))))
noncomputable def f70:Fn:=⟨[i,L (P S (P S (P i (P i (P b i))))),L (P i (P i (P (L (P S (P S (P i (P i b))))) (P (L (P S S)) (P i (P i b)))))),L i],[b],fun a=>Sh.impl_isStore a.1 a.2.1 a.2.2.1 a.2.2.2⟩
def a71:Ann:=Az (Az Aq)
noncomputable def f71:Fn:=⟨[i,L (P S (P S (P i (P i (P b i))))),L (P i (P i (P (L (P S (P S (P i (P i b))))) (P (L (P S S)) (P i (P i b)))))),L i],[b],fun a=>Sh.impl_GoodStore a.1 a.2.1 a.2.2.1 a.2.2.2⟩
def a72:Ann:=Az o31
noncomputable def f72:Fn:=⟨[i,i,b],[b],fun a=>Sh.spec_l1Tid a.1 a.2.1 a.2.2⟩
def a73:Ann:=Az (As (Az (Ab (some (8,[])) true (As (Ai [i]) (Al 8 [i] [(0,8)] [[],[b]] (As (Az (As o7 (As (Ab (some (9,[])) true (As (As o22 (Az o3)) (Ai []))) (Ai [])))) (Ai [i])))))) (Az Aq))
noncomputable def f73:Fn:=⟨[i,i,L (P S (P S (P i (P i b)))),L (P S S),i,i,b,S],[b],fun a=>Sh.spec_l5Writes a.1 a.2.1 a.2.2.1 a.2.2.2.1 a.2.2.2.2.1 a.2.2.2.2.2.1 a.2.2.2.2.2.2.1 a.2.2.2.2.2.2.2⟩
def a74:Ann:=Az (As o37 (As o18 (As (Az (Ab (some (9,[L o13,L (P S S)])) true (As o6 (Al 9 [L o13,L (P S S),i] [(0,9)] [[L o13,L (P S S)],[b]] (As (Az (As o50 (As (Ab (some (12,[])) true (As (As o10 (As o47 (Az (Ab (some (19,[])) true (As (Ai [i]) (Al 19 [i] [(2,19)] [[],[b]] (As (Az (As o7 (As (Ab (some (20,[])) true (As o75 (Ai []))) (Ai [])))) (Ai [i])))))))) (Ai []))) (Ai [])))) o6))))) (As (Ai [b]) (As (Az (Ab (some (12,[])) true (As (Ai [i]) (Al 12 [i] [(4,12)] [[],[b]] (As (Az (As o7 (As (Ab (some (13,[])) true (As (As o22 (As o47 (Az o18))) (Ai []))) (Ai [])))) (Ai [i])))))) (As (As (Ai [b]) (Ac none true o31 Aq)) (Az Aq)))))))
noncomputable def f74:Fn:=⟨[i,L (P S (P S (P i (P i (P b i))))),L (P i (P i (P (L (P S (P S (P i (P i b))))) (P (L (P S S)) (P i (P i b)))))),L i,i],[b],fun a=>Sh.spec_l5Running a.1 a.2.1 a.2.2.1 a.2.2.2.1 a.2.2.2.2⟩
def a75:Ann:=Az o17
noncomputable def f75:Fn:=⟨[L i,i],[b],fun a=>Sh.spec_l1Has a.1 a.2⟩
def a76:Ann:=Az (As o18 (As (Az (Ab (some (7,[])) true (As (Ai [i]) (Al 7 [i] [(0,7)] [[],[b]] (As (Az (As o7 (As (Ab (some (8,[])) true (As (As o8 (As o68 (As (Az o3) (Az (As (Ai [b,P i o1,b]) o3))))) (Ai []))) (Ai [])))) (Ai [i])))))) (Az (As (Az (Ab (some (7,[i])) true (As o21 (Al 7 [i,i] [(2,7)] [[i],[b]] (As (Az (As o11 (As (Ab (some (9,[i])) true (As (As o37 (As (Az o3) (As (Ai [b]) (Ac (some (12,[i])) false o28 o27)))) (Ai [i]))) (Ai [])))) o21))))) (As (Az (Ab (some (8,[])) true (As (Ai [i]) (Al 8 [i] [(4,8)] [[],[b]] (As (Az (As o7 (As (Ab (some (9,[])) true (As (Az (Az o18)) (Ai []))) (Ai [])))) (Ai [i])))))) (Az Aq))))))
noncomputable def f76:Fn:=⟨[i,L (P S (P S (P i (P i (P b i))))),L (P i (P i (P (L (P S (P S (P i (P i b))))) (P (L (P S S)) (P i (P i b)))))),L i],[b],fun a=>Sh.spec_GoodStore a.1 a.2.1 a.2.2.1 a.2.2.2⟩
def a77:Ann:=Az Aq
noncomputable def f77:Fn:=⟨[L (P S S)],[L (P S S)],fun a=>Sh.maps_Keys_map_stringstring_string_string a⟩
def a78:Ann:=Az Aq
noncomputable def f78:Fn:=⟨[L (P S S)],[L (P S S),L S],fun a=>Sh.slices_Sorted_string a⟩
def a79:Ann:=Az (As o12 (As (Az (Ab (some (5,[L (P S S)])) false (As o33 (Al 5 [L (P S S),i] [(0,5)] [[L (P S S)]] (As (Az (As o35 (As (Ab (some (7,[L (P S S)])) false (As (Az o38) o12)) (Ai [])))) o33))))) (Az Aq)))
noncomputable def f79:Fn:=⟨[L (P S S)],[L (P S S)],fun a=>Sh.impl_cellsOf a⟩
def a80:Ann:=Az (As o20 (Az (As (Az (Ab (some (8,[L (P S S)])) false (As o33 (Al 8 [L (P S S),i] [(0,8)] [[L (P S S)]] (As (Az (As o35 (As (Ab (some (10,[L (P S S)])) false (As (Az (Az (Ab (some (10,[L (P S S)])) false (As o73 (Al 10 [L (P S S),L (P S S),i] [(2,10)] [[L (P S S)]] (As (Az (As o35 (As (Ab (some (13,[L (P S S)])) false (As (As o22 o12) o12)) (Ai [])))) o73)))))) o12)) (Ai [])))) o33))))) (Az Aq))))
noncomputable def f80:Fn:=⟨[i,L (P S (P S (P i (P i (P b i))))),L (P i (P i (P (L (P S (P S (P i (P i b))))) (P (L (P S S)) (P i (P i b)))))),L i,i],[L (P S S),b],fun a=>Sh.impl_ReplayOrder a.1 a.2.1 a.2.2.1 a.2.2.2.1 a.2.2.2.2⟩
def a81:Ann:=Az (As (Az o3) (As o12 (As (Az (Ab (some (6,[L (P S S)])) false (As o33 (Al 6 [L (P S S),i] [(0,6)] [[L (P S S)]] (As (Az (As o35 (As (Ab (some (8,[L (P S S)])) false (As (As o8 (As (Ai [b]) (Ac (some (10,[L (P S S)])) false (As o38 o12) (As Aq o12)))) o12)) (Ai [])))) o33))))) (Az Aq))))
noncomputable def f81:Fn:=⟨[i,L (P S (P S (P i (P i (P b i))))),L (P i (P i (P (L (P S (P S (P i (P i b))))) (P (L (P S S)) (P i (P i b)))))),L i],[L (P S S),b],fun a=>Sh.impl_MapOf a.1 a.2.1 a.2.2.1 a.2.2.2⟩
def a82:Ann:=Az (As (Az o3) (As (Az (Ab (some (2,[])) true (As (Ai [i]) (Al 2 [i] [(0,2)] [[],[b]] (As (Az (As o7 (As (Ab (some (3,[])) true (As (Az (As (Ai [P S S,P S S]) o3)) (Ai []))) (Ai [])))) (Ai [i])))))) (Az Aq)))
noncomputable def f82:Fn:=⟨[L (P S S),L (P S S)],[b],fun a=>Sh.laws_sameCells a.1 a.2⟩
def a83:Ann:=Az (As (Az o3) (Az (Az (Az (As o20 (As (Az o3) (As o20 (Az (As (Az (Ab (some (20,[b])) true (As (Ai [b,i]) (Al 20 [b,i] [(0,20)] [[b],[b]] (As (Az (As (Ac none true Aq o31) (As (Ab (some (22,[b])) true (As (Az (As o37 (As (Ai [b]) (Az (As (Az o3) (Az (Ab (some (26,[])) true (As o57 (Al 26 [L o13,i] [(2,26)] [[],[b]] (As (Az (As o7 (As (Ab (some (28,[L o13])) true (As (As o10 (Az (As (Az (Ab (some (29,[S,L o13])) false (As (Ai [S,L o13,i]) (Al 29 [S,L o13,i] [(4,29)] [[S,L o13]] (As (Az (As (Ac none true Aq (As o56 Aq)) (As (Ab (some (32,[S,L o13])) false (As (As o22 (Az (Ac (some (33,[S,L o13])) false (Az o56) (As Aq o56)))) o56)) (Ai [])))) (Ai [S,L o13,i])))))) (Az o3)))) (Ai [L o13]))) (Ai [])))) o57)))))))))) (Ai [b]))) (Ai [])))) (Ai [b,i])))))) (Az (Az (As (Ai [b,b,b]) Aq))))))))))))
noncomputable def f83:Fn:=⟨[L i],[b],fun a=>Sh.laws_FnOcc a⟩
noncomputable def fs:List Fn:=[f0,f1,f2,f3,f4,f5,f6,f7,f8,f9,f10,f11,f12,f13,f14,f15,f16,f17,f18,f19,f20,f21,f22,f23,f24,f25,f26,f27,f28,f29,f30,f31,f32,f33,f34,f35,f36,f37,f38,f39,f40,f41,f42,f43,f44,f45,f46,f47,f48,f49,f50,f51,f52,f53,f54,f55,f56,f57,f58,f59,f60,f61,f62,f63,f64,f65,f66,f67,f68,f69,f70,f71,f72,f73,f74,f75,f76,f77,f78,f79,f80,f81,f82,f83]
abbrev Qt (f:Fn)(n:Nat)(p:PI)(h:Ann):Prop:=∀a,f.f a=dnFn fs n p h f.ins f.outs a
theorem t0:Qt f0 0 p0 a0:=by intro a;kernel_rfl
theorem t1:Qt f1 1 p1 a1:=by intro a;kernel_rfl
theorem t2:Qt f2 2 p2 a2:=by intro a;kernel_rfl
theorem t3:Qt f3 3 p3 a3:=by intro a;kernel_rfl
theorem t4:Qt f4 4 p4 a4:=by intro a;kernel_rfl
theorem t5:Qt f5 5 p5 a5:=by intro a;kernel_rfl
theorem t6:Qt f6 6 p6 a6:=by intro a;kernel_rfl
theorem t7:Qt f7 7 p7 a7:=by intro a;kernel_rfl
theorem t8:Qt f8 8 p8 a8:=by intro a;kernel_rfl
theorem t9:Qt f9 9 p9 a9:=by intro a;kernel_rfl
theorem t10:Qt f10 10 p10 a10:=by intro a;kernel_rfl
theorem t11:Qt f11 11 p11 a11:=by intro a;kernel_rfl
theorem t12:Qt f12 12 p12 a12:=by intro a;kernel_rfl
theorem t13:Qt f13 13 p13 a13:=by intro a;kernel_rfl
theorem t14:Qt f14 14 p14 a14:=by intro a;kernel_rfl
theorem t15:Qt f15 15 p15 a15:=by intro a;kernel_rfl
theorem t16:Qt f16 16 p16 a16:=by intro a;kernel_rfl
theorem t17:Qt f17 17 p17 a17:=by intro a;kernel_rfl
theorem t18:Qt f18 18 p18 a18:=by intro a;kernel_rfl
theorem t19:Qt f19 19 p19 a19:=by intro a;kernel_rfl
theorem t20:Qt f20 20 p20 a20:=by intro a;kernel_rfl
theorem t21:Qt f21 21 p21 a21:=by intro a;kernel_rfl
theorem t22:Qt f22 22 p22 a22:=by intro a;kernel_rfl
theorem t23:Qt f23 23 p23 a23:=by intro a;kernel_rfl
theorem t24:Qt f24 24 p24 a24:=by intro a;kernel_rfl
theorem t25:Qt f25 25 p25 a25:=by intro a;kernel_rfl
theorem t26:Qt f26 26 p26 a26:=by intro a;kernel_rfl
theorem t27:Qt f27 27 p27 a27:=by intro a;kernel_rfl
theorem t28:Qt f28 28 p28 a28:=by intro a;kernel_rfl
theorem t29:Qt f29 29 p29 a29:=by intro a;kernel_rfl
theorem t30:Qt f30 30 p30 a30:=by intro a;kernel_rfl
theorem t31:Qt f31 31 p31 a31:=by intro a;kernel_rfl
theorem t32:Qt f32 32 p32 a32:=by intro a;kernel_rfl
theorem t33:Qt f33 33 p33 a33:=by intro a;kernel_rfl
theorem t34:Qt f34 34 p34 a34:=by intro a;kernel_rfl
theorem t35:Qt f35 35 p35 a35:=by intro a;kernel_rfl
theorem t36:Qt f36 36 p36 a36:=by intro a;kernel_rfl
theorem t37:Qt f37 37 p37 a37:=by intro a;kernel_rfl
theorem t38:Qt f38 38 p38 a38:=by intro a;kernel_rfl
theorem t39:Qt f39 39 p39 a39:=by intro a;kernel_rfl
theorem t40:Qt f40 40 p40 a40:=by intro a;kernel_rfl
theorem t41:Qt f41 41 p41 a41:=by intro a;kernel_rfl
theorem t42:Qt f42 42 p42 a42:=by intro a;kernel_rfl
theorem t43:Qt f43 43 p43 a43:=by intro a;kernel_rfl
theorem t44:Qt f44 44 p44 a44:=by intro a;kernel_rfl
theorem t45:Qt f45 45 p45 a45:=by intro a;kernel_rfl
theorem t46:Qt f46 46 p46 a46:=by intro a;kernel_rfl
theorem t47:Qt f47 47 p47 a47:=by intro a;kernel_rfl
theorem t48:Qt f48 48 p48 a48:=by intro a;kernel_rfl
theorem t49:Qt f49 49 p49 a49:=by intro a;kernel_rfl
theorem t50:Qt f50 50 p50 a50:=by intro a;kernel_rfl
theorem t51:Qt f51 51 p51 a51:=by intro a;kernel_rfl
theorem t52:Qt f52 52 p52 a52:=by intro a;kernel_rfl
theorem t53:Qt f53 53 p53 a53:=by intro a;kernel_rfl
theorem t54:Qt f54 54 p54 a54:=by intro a;kernel_rfl
theorem t55:Qt f55 55 p55 a55:=by intro a;kernel_rfl
theorem t56:Qt f56 56 p56 a56:=by intro a;kernel_rfl
theorem t57:Qt f57 57 p57 a57:=by intro a;kernel_rfl
theorem t58:Qt f58 58 p58 a58:=by intro a;kernel_rfl
theorem t59:Qt f59 59 p59 a59:=by intro a;kernel_rfl
theorem t60:Qt f60 60 p60 a60:=by intro a;kernel_rfl
theorem t61:Qt f61 61 p61 a61:=by intro a;kernel_rfl
theorem t62:Qt f62 62 p62 a62:=by intro a;kernel_rfl
theorem t63:Qt f63 63 p63 a63:=by intro a;kernel_rfl
theorem t64:Qt f64 64 p64 a64:=by intro a;kernel_rfl
theorem t65:Qt f65 65 p65 a65:=by intro a;kernel_rfl
theorem t66:Qt f66 66 p66 a66:=by intro a;kernel_rfl
theorem t67:Qt f67 67 p67 a67:=by intro a;kernel_rfl
theorem t68:Qt f68 68 p68 a68:=by intro a;kernel_rfl
theorem t69:Qt f69 69 p69 a69:=by intro a;kernel_rfl
theorem t70:Qt f70 70 p70 a70:=by intro a;kernel_rfl
theorem t71:Qt f71 71 p71 a71:=by intro a;kernel_rfl
theorem t72:Qt f72 72 p72 a72:=by intro a;kernel_rfl
theorem t73:Qt f73 73 p73 a73:=by intro a;kernel_rfl
theorem t74:Qt f74 74 p74 a74:=by intro a;kernel_rfl
theorem t75:Qt f75 75 p75 a75:=by intro a;kernel_rfl
theorem t76:Qt f76 76 p76 a76:=by intro a;kernel_rfl
theorem t77:Qt f77 77 p77 a77:=by intro a;kernel_rfl
theorem t78:Qt f78 78 p78 a78:=by intro a;kernel_rfl
theorem t79:Qt f79 79 p79 a79:=by intro a;kernel_rfl
theorem t80:Qt f80 80 p80 a80:=by intro a;kernel_rfl
theorem t81:Qt f81 81 p81 a81:=by intro a;kernel_rfl
theorem t82:Qt f82 82 p82 a82:=by intro a;kernel_rfl
theorem t83:Qt f83 83 p83 a83:=by intro a;kernel_rfl
theorem tf:∀j F,fs[j]? = some F->TfOk (sysOf ps) j F:=zl1 (fs:=fs) (ps:=ps) (hs:=[a0,a1,a2,a3,a4,a5,a6,a7,a8,a9,a10,a11,a12,a13,a14,a15,a16,a17,a18,a19,a20,a21,a22,a23,a24,a25,a26,a27,a28,a29,a30,a31,a32,a33,a34,a35,a36,a37,a38,a39,a40,a41,a42,a43,a44,a45,a46,a47,a48,a49,a50,a51,a52,a53,a54,a55,a56,a57,a58,a59,a60,a61,a62,a63,a64,a65,a66,a67,a68,a69,a70,a71,a72,a73,a74,a75,a76,a77,a78,a79,a80,a81,a82,a83]) ⟨t0,t1,t2,t3,t4,t5,t6,t7,t8,t9,t10,t11,t12,t13,t14,t15,t16,t17,t18,t19,t20,t21,t22,t23,t24,t25,t26,t27,t28,t29,t30,t31,t32,t33,t34,t35,t36,t37,t38,t39,t40,t41,t42,t43,t44,t45,t46,t47,t48,t49,t50,t51,t52,t53,t54,t55,t56,t57,t58,t59,t60,t61,t62,t63,t64,t65,t66,t67,t68,t69,t70,t71,t72,t73,t74,t75,t76,t77,t78,t79,t80,t81,t82,t83,trivial⟩
end Gp.YthhmbcblhgnelaaGreatDoor
