/-
  Frames taken apart.
-/
import Derived.Test.YtmimkgfkicgfiaaDoorProg
import Derived.LoopN
namespace Go.Proofs.YtmimkgfkicgfiaaDoor.Fr
theorem cons_of {n : Nat} {l : List Value} (h : l.length = n + 1) : ∃ x l', l = x :: l' ∧ l'.length = n := by
  match l, h with
  | x :: l', h => exact ⟨x, l', rfl, by simpa using h⟩

/-- a frame of 111 slots of which a few are known -/
def FrA (f2 f3 f27 f28 : Value) (Rel : Value → List Deferred → Prop) (A : Act) : Prop :=
  ∃ (l : List Value) (dl : List Deferred), A = { tmps := l.toArray, defers := dl } ∧ l.length = 111 ∧ l[2]? = some f2 ∧ l[3]? = some f3 ∧ l[27]? = some f27 ∧ l[28]? = some f28 ∧ ∃ v, l[29]? = some v ∧ Rel v dl
set_option maxRecDepth 100000 in
theorem unpackA {f2 f3 f27 f28 : Value} {Rel : Value → List Deferred → Prop} {P : Act → Prop} {A : Act} (h : FrA f2 f3 f27 f28 Rel A) (hp : ∀ (u0 u1 u4 u5 u6 u7 u8 u9 u10 u11 u12 u13 u14 u15 u16 u17 u18 u19 u20 u21 u22 u23 u24 u25 u26 u29 u30 u31 u32 u33 u34 u35 u36 u37 u38 u39 u40 u41 u42 u43 u44 u45 u46 u47 u48 u49 u50 u51 u52 u53 u54 u55 u56 u57 u58 u59 u60 u61 u62 u63 u64 u65 u66 u67 u68 u69 u70 u71 u72 u73 u74 u75 u76 u77 u78 u79 u80 u81 u82 u83 u84 u85 u86 u87 u88 u89 u90 u91 u92 u93 u94 u95 u96 u97 u98 u99 u100 u101 u102 u103 u104 u105 u106 u107 u108 u109 u110 : Value) (dl : List Deferred), Rel u29 dl → P { tmps := ([u0, u1, f2, f3, u4, u5, u6, u7, u8, u9, u10, u11, u12, u13, u14, u15, u16, u17, u18, u19, u20, u21, u22, u23, u24, u25, u26, f27, f28, u29, u30, u31, u32, u33, u34, u35, u36, u37, u38, u39, u40, u41, u42, u43, u44, u45, u46, u47, u48, u49, u50, u51, u52, u53, u54, u55, u56, u57, u58, u59, u60, u61, u62, u63, u64, u65, u66, u67, u68, u69, u70, u71, u72, u73, u74, u75, u76, u77, u78, u79, u80, u81, u82, u83, u84, u85, u86, u87, u88, u89, u90, u91, u92, u93, u94, u95, u96, u97, u98, u99, u100, u101, u102, u103, u104, u105, u106, u107, u108, u109, u110] : List Value).toArray, defers := dl }) : P A := by
  obtain ⟨l, dl, rfl, hl, e2, e3, e27, e28, v, hv, hr⟩ := h
  obtain ⟨u0, l0, rfl, h0⟩ := cons_of hl; clear hl
  obtain ⟨u1, l1, rfl, h1⟩ := cons_of h0; clear h0
  obtain ⟨u2, l2, rfl, h2⟩ := cons_of h1; clear h1
  obtain ⟨u3, l3, rfl, h3⟩ := cons_of h2; clear h2
  obtain ⟨u4, l4, rfl, h4⟩ := cons_of h3; clear h3
  obtain ⟨u5, l5, rfl, h5⟩ := cons_of h4; clear h4
  obtain ⟨u6, l6, rfl, h6⟩ := cons_of h5; clear h5
  obtain ⟨u7, l7, rfl, h7⟩ := cons_of h6; clear h6
  obtain ⟨u8, l8, rfl, h8⟩ := cons_of h7; clear h7
  obtain ⟨u9, l9, rfl, h9⟩ := cons_of h8; clear h8
  obtain ⟨u10, l10, rfl, h10⟩ := cons_of h9; clear h9
  obtain ⟨u11, l11, rfl, h11⟩ := cons_of h10; clear h10
  obtain ⟨u12, l12, rfl, h12⟩ := cons_of h11; clear h11
  obtain ⟨u13, l13, rfl, h13⟩ := cons_of h12; clear h12
  obtain ⟨u14, l14, rfl, h14⟩ := cons_of h13; clear h13
  obtain ⟨u15, l15, rfl, h15⟩ := cons_of h14; clear h14
  obtain ⟨u16, l16, rfl, h16⟩ := cons_of h15; clear h15
  obtain ⟨u17, l17, rfl, h17⟩ := cons_of h16; clear h16
  obtain ⟨u18, l18, rfl, h18⟩ := cons_of h17; clear h17
  obtain ⟨u19, l19, rfl, h19⟩ := cons_of h18; clear h18
  obtain ⟨u20, l20, rfl, h20⟩ := cons_of h19; clear h19
  obtain ⟨u21, l21, rfl, h21⟩ := cons_of h20; clear h20
  obtain ⟨u22, l22, rfl, h22⟩ := cons_of h21; clear h21
  obtain ⟨u23, l23, rfl, h23⟩ := cons_of h22; clear h22
  obtain ⟨u24, l24, rfl, h24⟩ := cons_of h23; clear h23
  obtain ⟨u25, l25, rfl, h25⟩ := cons_of h24; clear h24
  obtain ⟨u26, l26, rfl, h26⟩ := cons_of h25; clear h25
  obtain ⟨u27, l27, rfl, h27⟩ := cons_of h26; clear h26
  obtain ⟨u28, l28, rfl, h28⟩ := cons_of h27; clear h27
  obtain ⟨u29, l29, rfl, h29⟩ := cons_of h28; clear h28
  obtain ⟨u30, l30, rfl, h30⟩ := cons_of h29; clear h29
  obtain ⟨u31, l31, rfl, h31⟩ := cons_of h30; clear h30
  obtain ⟨u32, l32, rfl, h32⟩ := cons_of h31; clear h31
  obtain ⟨u33, l33, rfl, h33⟩ := cons_of h32; clear h32
  obtain ⟨u34, l34, rfl, h34⟩ := cons_of h33; clear h33
  obtain ⟨u35, l35, rfl, h35⟩ := cons_of h34; clear h34
  obtain ⟨u36, l36, rfl, h36⟩ := cons_of h35; clear h35
  obtain ⟨u37, l37, rfl, h37⟩ := cons_of h36; clear h36
  obtain ⟨u38, l38, rfl, h38⟩ := cons_of h37; clear h37
  obtain ⟨u39, l39, rfl, h39⟩ := cons_of h38; clear h38
  obtain ⟨u40, l40, rfl, h40⟩ := cons_of h39; clear h39
  obtain ⟨u41, l41, rfl, h41⟩ := cons_of h40; clear h40
  obtain ⟨u42, l42, rfl, h42⟩ := cons_of h41; clear h41
  obtain ⟨u43, l43, rfl, h43⟩ := cons_of h42; clear h42
  obtain ⟨u44, l44, rfl, h44⟩ := cons_of h43; clear h43
  obtain ⟨u45, l45, rfl, h45⟩ := cons_of h44; clear h44
  obtain ⟨u46, l46, rfl, h46⟩ := cons_of h45; clear h45
  obtain ⟨u47, l47, rfl, h47⟩ := cons_of h46; clear h46
  obtain ⟨u48, l48, rfl, h48⟩ := cons_of h47; clear h47
  obtain ⟨u49, l49, rfl, h49⟩ := cons_of h48; clear h48
  obtain ⟨u50, l50, rfl, h50⟩ := cons_of h49; clear h49
  obtain ⟨u51, l51, rfl, h51⟩ := cons_of h50; clear h50
  obtain ⟨u52, l52, rfl, h52⟩ := cons_of h51; clear h51
  obtain ⟨u53, l53, rfl, h53⟩ := cons_of h52; clear h52
  obtain ⟨u54, l54, rfl, h54⟩ := cons_of h53; clear h53
  obtain ⟨u55, l55, rfl, h55⟩ := cons_of h54; clear h54
  obtain ⟨u56, l56, rfl, h56⟩ := cons_of h55; clear h55
  obtain ⟨u57, l57, rfl, h57⟩ := cons_of h56; clear h56
  obtain ⟨u58, l58, rfl, h58⟩ := cons_of h57; clear h57
  obtain ⟨u59, l59, rfl, h59⟩ := cons_of h58; clear h58
  obtain ⟨u60, l60, rfl, h60⟩ := cons_of h59; clear h59
  obtain ⟨u61, l61, rfl, h61⟩ := cons_of h60; clear h60
  obtain ⟨u62, l62, rfl, h62⟩ := cons_of h61; clear h61
  obtain ⟨u63, l63, rfl, h63⟩ := cons_of h62; clear h62
  obtain ⟨u64, l64, rfl, h64⟩ := cons_of h63; clear h63
  obtain ⟨u65, l65, rfl, h65⟩ := cons_of h64; clear h64
  obtain ⟨u66, l66, rfl, h66⟩ := cons_of h65; clear h65
  obtain ⟨u67, l67, rfl, h67⟩ := cons_of h66; clear h66
  obtain ⟨u68, l68, rfl, h68⟩ := cons_of h67; clear h67
  obtain ⟨u69, l69, rfl, h69⟩ := cons_of h68; clear h68
  obtain ⟨u70, l70, rfl, h70⟩ := cons_of h69; clear h69
  obtain ⟨u71, l71, rfl, h71⟩ := cons_of h70; clear h70
  obtain ⟨u72, l72, rfl, h72⟩ := cons_of h71; clear h71
  obtain ⟨u73, l73, rfl, h73⟩ := cons_of h72; clear h72
  obtain ⟨u74, l74, rfl, h74⟩ := cons_of h73; clear h73
  obtain ⟨u75, l75, rfl, h75⟩ := cons_of h74; clear h74
  obtain ⟨u76, l76, rfl, h76⟩ := cons_of h75; clear h75
  obtain ⟨u77, l77, rfl, h77⟩ := cons_of h76; clear h76
  obtain ⟨u78, l78, rfl, h78⟩ := cons_of h77; clear h77
  obtain ⟨u79, l79, rfl, h79⟩ := cons_of h78; clear h78
  obtain ⟨u80, l80, rfl, h80⟩ := cons_of h79; clear h79
  obtain ⟨u81, l81, rfl, h81⟩ := cons_of h80; clear h80
  obtain ⟨u82, l82, rfl, h82⟩ := cons_of h81; clear h81
  obtain ⟨u83, l83, rfl, h83⟩ := cons_of h82; clear h82
  obtain ⟨u84, l84, rfl, h84⟩ := cons_of h83; clear h83
  obtain ⟨u85, l85, rfl, h85⟩ := cons_of h84; clear h84
  obtain ⟨u86, l86, rfl, h86⟩ := cons_of h85; clear h85
  obtain ⟨u87, l87, rfl, h87⟩ := cons_of h86; clear h86
  obtain ⟨u88, l88, rfl, h88⟩ := cons_of h87; clear h87
  obtain ⟨u89, l89, rfl, h89⟩ := cons_of h88; clear h88
  obtain ⟨u90, l90, rfl, h90⟩ := cons_of h89; clear h89
  obtain ⟨u91, l91, rfl, h91⟩ := cons_of h90; clear h90
  obtain ⟨u92, l92, rfl, h92⟩ := cons_of h91; clear h91
  obtain ⟨u93, l93, rfl, h93⟩ := cons_of h92; clear h92
  obtain ⟨u94, l94, rfl, h94⟩ := cons_of h93; clear h93
  obtain ⟨u95, l95, rfl, h95⟩ := cons_of h94; clear h94
  obtain ⟨u96, l96, rfl, h96⟩ := cons_of h95; clear h95
  obtain ⟨u97, l97, rfl, h97⟩ := cons_of h96; clear h96
  obtain ⟨u98, l98, rfl, h98⟩ := cons_of h97; clear h97
  obtain ⟨u99, l99, rfl, h99⟩ := cons_of h98; clear h98
  obtain ⟨u100, l100, rfl, h100⟩ := cons_of h99; clear h99
  obtain ⟨u101, l101, rfl, h101⟩ := cons_of h100; clear h100
  obtain ⟨u102, l102, rfl, h102⟩ := cons_of h101; clear h101
  obtain ⟨u103, l103, rfl, h103⟩ := cons_of h102; clear h102
  obtain ⟨u104, l104, rfl, h104⟩ := cons_of h103; clear h103
  obtain ⟨u105, l105, rfl, h105⟩ := cons_of h104; clear h104
  obtain ⟨u106, l106, rfl, h106⟩ := cons_of h105; clear h105
  obtain ⟨u107, l107, rfl, h107⟩ := cons_of h106; clear h106
  obtain ⟨u108, l108, rfl, h108⟩ := cons_of h107; clear h107
  obtain ⟨u109, l109, rfl, h109⟩ := cons_of h108; clear h108
  obtain ⟨u110, l110, rfl, h110⟩ := cons_of h109; clear h109
  obtain rfl := List.eq_nil_of_length_eq_zero h110
  obtain rfl : u2 = f2 := by simpa using e2
  obtain rfl : u3 = f3 := by simpa using e3
  obtain rfl : u27 = f27 := by simpa using e27
  obtain rfl : u28 = f28 := by simpa using e28
  obtain rfl : u29 = v := by simpa using hv
  exact hp _ _ _ _ _ _ _ _ _ _ _ _ _ _ _ _ _ _ _ _ _ _ _ _ _ _ _ _ _ _ _ _ _ _ _ _ _ _ _ _ _ _ _ _ _ _ _ _ _ _ _ _ _ _ _ _ _ _ _ _ _ _ _ _ _ _ _ _ _ _ _ _ _ _ _ _ _ _ _ _ _ _ _ _ _ _ _ _ _ _ _ _ _ _ _ _ _ _ _ _ _ _ _ _ _ _ _ dl hr

end Go.Proofs.YtmimkgfkicgfiaaDoor.Fr
