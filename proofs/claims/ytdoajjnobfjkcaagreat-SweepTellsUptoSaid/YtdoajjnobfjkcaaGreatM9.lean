import Derived.Test.YtdoajjnobfjkcaaGreatProg
import Derived.KernelRfl
import Derived.Test.YtdoajjnobfjkcaaGreatM8
set_option linter.all false
noncomputable section
open Go.IntKind renaming wrap→wp
namespace Go.PB
abbrev RT.gd (c:Bool)(t:RT):RT:= .ite c t .bG
end Go.PB
namespace Go.Proofs
open Go Go.PB
abbrev fw:Nat:=3
abbrev ig:Nat:=4
abbrev kr:Nat:=5
abbrev q6:Nat:=7
abbrev cB:Nat:=8
abbrev uP:Nat:=9
abbrev jB:Nat:=10
abbrev wP:Nat:=11
abbrev ie:Nat:=12
abbrev dH:Nat:=13
abbrev ic:Nat:=14
abbrev iN:Nat:=15
abbrev jW:Nat:=16
abbrev uM:Nat:=17
abbrev qD:Nat:=18
abbrev q7:Nat:=19
abbrev ug:Nat:=20
abbrev zT:Nat:=21
abbrev ij:Nat:=23
abbrev cD:Nat:=24
abbrev du:Nat:=25
abbrev kv:Nat:=26
abbrev gz:Nat:=27
abbrev gR:Nat:=28
abbrev gH:Nat:=30
abbrev fQ:Nat:=31
abbrev jb:Nat:=32
abbrev cE:Nat:=33
abbrev gA:Nat:=34
abbrev cA:Nat:=35
abbrev cd:Nat:=36
abbrev fB:Nat:=37
abbrev cw:Nat:=38
abbrev gS:Nat:=39
abbrev je:Nat:=40
abbrev pe:Nat:=41
abbrev sR:Nat:=42
abbrev qd:Nat:=43
abbrev cH:Nat:=44
abbrev ik:Nat:=45
abbrev pc:Nat:=46
abbrev pJ:Nat:=47
abbrev lx:Nat:=48
abbrev ib:Nat:=49
abbrev dG:Nat:=51
abbrev qz:Nat:=52
abbrev cY:Nat:=53
abbrev mn:Nat:=54
abbrev uN:Nat:=55
abbrev iP:Nat:=56
abbrev uf:Nat:=57
abbrev gJ:Nat:=58
abbrev nQ:Nat:=59
abbrev eI:Nat:=60
abbrev gr:Nat:=61
abbrev qA:Nat:=62
abbrev bZ:Nat:=63
abbrev dj:Nat:=64
abbrev xl:Nat:=66
abbrev fT:Nat:=67
abbrev uH:Nat:=68
abbrev dz:Nat:=69
abbrev fy:Nat:=70
abbrev wO:Nat:=71
abbrev cG:Nat:=72
abbrev ng:Nat:=73
abbrev mj:Nat:=75
abbrev nO:Nat:=76
abbrev eX:Nat:=77
abbrev gv:Nat:=78
abbrev iO:Nat:=79
abbrev bM:Nat:=80
abbrev fj:Nat:=81
abbrev jy:Nat:=82
abbrev mJ:Nat:=83
abbrev fA:Nat:=84
abbrev mu:Nat:=85
abbrev jC:Nat:=86
abbrev mq:Nat:=87
abbrev gQ:Nat:=88
abbrev CJ:Nat:=89
abbrev sT:Nat:=90
abbrev zU:Nat:=91
abbrev fH:Nat:=92
abbrev zi:Nat:=93
abbrev iQ:Nat:=94
abbrev q0:Nat:=95
abbrev uh:Nat:=96
abbrev sV:Nat:=97
abbrev jU:Nat:=99
abbrev sQ:Nat:=100
abbrev GG:Nat:=102
abbrev gh:Nat:=104
abbrev eG:Nat:=105
abbrev ia:Nat:=106
abbrev ml:Nat:=107
abbrev yw:Nat:=108
abbrev zh:Nat:=109
abbrev ly:Nat:=110
abbrev ja:Nat:=111
abbrev fx:Nat:=112
abbrev cv:Nat:=113
abbrev ni:Nat:=114
abbrev uL:Nat:=115
abbrev dK:Nat:=116
abbrev A6:Nat:=119
abbrev nP:Nat:=120
abbrev fU:Nat:=121
abbrev jT:Nat:=122
abbrev jV:Nat:=123
abbrev cy:Nat:=124
abbrev jf:Nat:=125
abbrev mw:Nat:=126
abbrev dJ:Nat:=127
abbrev ez:Nat:=128
abbrev xr:Nat:=129
abbrev uQ:Nat:=130
abbrev GF:Nat:=131
abbrev pK:Nat:=132
abbrev nj:Nat:=133
abbrev eS:Nat:=135
abbrev i9:Nat:=136
abbrev qB:Nat:=137
abbrev kT:Nat:=138
abbrev xp:Nat:=139
abbrev zZ:Nat:=140
abbrev fS:Nat:=141
abbrev jA:Nat:=142
abbrev xq:Nat:=143
abbrev uJ:Nat:=144
abbrev nN:Nat:=156
abbrev lB:Nat:=157
abbrev A7:Nat:=158
abbrev fI:Nat:=159
abbrev fR:Nat:=160
abbrev z6:Nat:=161
abbrev bp:Nat:=162
abbrev nS:Nat:=163
abbrev CH:Nat:=164
abbrev CI:Nat:=165
abbrev GB:Nat:=166
abbrev jc:Nat:=167
abbrev ui:Nat:=168
abbrev zV:Nat:=169
abbrev pb:Nat:=170
abbrev ku:Nat:=171
abbrev cL:Nat:=172
abbrev dY:Nat:=173
abbrev dB:Nat:=181
abbrev de:Nat:=182
abbrev zX:Nat:=183
abbrev bH:Nat:=184
abbrev mo:Nat:=185
abbrev xm:Nat:=186
abbrev xn:Nat:=187
abbrev cg:Nat:=188
abbrev zW:Nat:=190
abbrev df:Nat:=191
abbrev xo:Nat:=192
abbrev sS:Nat:=193
abbrev gu:Nat:=194
abbrev nR:Nat:=195
abbrev jd:Nat:=196
abbrev um:Nat:=197
abbrev GC:Nat:=198
abbrev ey:Nat:=200
abbrev bN:Nat:=202
abbrev gP:Nat:=203
abbrev jz:Nat:=204
abbrev fG:Nat:=205
abbrev uo:Nat:=206
abbrev eJ:Nat:=207
abbrev uw:Nat:=208
abbrev GA:Nat:=209
abbrev cR:Nat:=210
abbrev zY:Nat:=211
abbrev ux:Nat:=212
abbrev uy:Nat:=213
abbrev uC:Nat:=214
abbrev uD:Nat:=215
abbrev qC:Nat:=216
abbrev uF:Nat:=217
abbrev gI:Nat:=218
abbrev nh:Nat:=219
abbrev fi:Nat:=220
abbrev uG:Nat:=221
abbrev cF:Nat:=222
abbrev dS:Nat:=223
noncomputable abbrev pg:=Tryz.prog
abbrev W0:Nat:=2
abbrev af:Nat:=3
abbrev ai:Nat:=4
abbrev tu8:Nat:=5
abbrev bX:Nat:=9
abbrev Bz:Nat:=22
abbrev Dn:Nat:=23
abbrev OL:Nat:=24
abbrev aA:Nat:=25
abbrev bu:Nat:=27
abbrev eg:Nat:=28
abbrev b6:Nat:=31
abbrev bP:Nat:=32
abbrev aW:Nat:=35
abbrev aM:Nat:=36
abbrev lO:Nat:=46
abbrev cC:Nat:=47
abbrev FE:Nat:=48
abbrev dE:Nat:=49
abbrev av:Nat:=51
abbrev lM:Nat:=52
abbrev bK:Nat:=53
abbrev ke:Nat:=54
abbrev aH:Nat:=56
abbrev bF:Nat:=58
abbrev br:Nat:=60
abbrev iF:Nat:=67
abbrev bd:Nat:=76
abbrev bh:Nat:=83
abbrev dP:Nat:=109
abbrev jr:Nat:=110
abbrev aF:Nat:=131
abbrev tOp:Nat:=132
abbrev ID:Nat:=133
abbrev IF:Nat:=134
abbrev aG:Nat:=136
abbrev gD:Nat:=137
abbrev ba:Nat:=139
abbrev BX:Nat:=147
abbrev Z9:Nat:=155
abbrev gW:Nat:=202
abbrev cM:Nat:=221
abbrev bW:Nat:=225
abbrev dq:Nat:=233
def KI:pg.follows .mixedOrders=true:=by kernel_rfl
structure WS where
 pa:List D
 cu:List D
 th:List (D×D)
 st:List Nat
 ck:Nat
 fa:List (D×D)
 sf:List Nat
 cf:Nat
 la:Int
 ma:List D
@[reducible] def Wm (W:WS):List (Nat×aI):=
 [(0,.cells [.bw cC W.pa,.aZ 3 W.cu.length true,.map 1,.map 2,.int .i64 W.la,.aZ 4 W.ma.length true] bh false),(1,.bg aA (.bY 1 aH) W.th W.st W.ck),(2,.bg aF (.data aA) W.fa W.sf W.cf),(3,.ak ai W.cu true),(4,.ak af W.ma true)]
@[reducible] def XA (W:WS):List (Nat×aI):=
 [(0,.cells [.aP 1 0] b6 false),(1,.cells [.bw cC W.pa,.aZ 4 W.cu.length true,.map 2,.map 3,.int .i64 W.la,.aZ 5 W.ma.length true] bh false),(2,.bg aA (.bY 2 aH) W.th W.st W.ck),(3,.bg aF (.data aA) W.fa W.sf W.cf),(4,.ak ai W.cu true),(5,.ak af W.ma true)]
structure RS where
 pa:List D
 cu:List D
 th:List D
 la:Int
 ma:List D
@[reducible] def Rm (R:RS):List (Nat×aI):=
 [(0,.cells [.aZ 1 R.pa.length true,.aZ 2 R.cu.length true,.aZ 3 R.th.length true,.int .i64 R.la,.aZ 4 R.ma.length true] bd false),(1,.ak af R.pa true),(2,.ak ai R.cu true),(3,.ak bF R.th true),(4,.ak af R.ma true)]
def Wm3 (M:List (Nat×aI))(l:List D):List (Nat×aI):=match M with
 | [(0,.cells [p,.aZ 3 n t,m1,m2,la,.aZ 4 k u] ty s),(1,a),(2,b),(3,c),(4,e)]=>[(0,.cells [p,.aZ 4 n t,m1,m2,la,.aZ 5 k u] ty s),(1,a),(2,b),(3,.ak aA l true),(4,c),(5,e)]
 |_=>[]
def Rm1 (M:List (Nat×aI))(l:List D):List (Nat×aI):=match M with
 | [(0,.cells [.aZ _ a _,.aZ _ b _,.aZ _ c _,la,.aZ _ e _] t s),(_,r1),(_,r2),(_,r3),(_,r4)]=>[(0,.cells [.aZ 2 a true,.aZ 3 b true,.aZ 4 c true,la,.aZ 5 e true] t s),(1,.ak aA l true),(2,r1),(3,r2),(4,r3),(5,r4)]
 |_=>[]
def agB (M:List (Nat×aI))(l r:List D):List (Nat×aI):=match M with
 | [(0,.cells [p,.aZ 3 n t,m1,m2,la,.aZ 4 k u] ty s),(1,a),(2,b),(3,c),(4,e)]=>[(0,.cells [p,.aZ 5 n t,m1,m2,la,.aZ 6 k u] ty s),(1,a),(2,b),(3,.ak aA l true),(4,.ak aA r true),(5,c),(6,e)]
 |_=>[]
@[reducible] def Wm2 (W:WS)(m:List (D×D))(st:List Nat)(ck:Nat):List (Nat×aI):=
 [(0,.cells [.aP 2 0] b6 false),(1,.cells [.map 3] jr false),(2,.cells [.bw cC W.pa,.aZ 6 W.cu.length true,.map 4,.map 5,.int .i64 W.la,.aZ 7 W.ma.length true] bh false),(3,.bg aA (.data af) m st ck),(4,.bg aA (.bY 4 aH) W.th W.st W.ck),(5,.bg aF (.data aA) W.fa W.sf W.cf),(6,.ak ai W.cu true),(7,.ak af W.ma true)]
@[reducible] def WmL (W:WS)(l:List D):List (Nat×aI):=
 [(0,.cells [.bw cC W.pa,.aZ 4 W.cu.length true,.map 2,.map 3,.int .i64 W.la,.aZ 5 W.ma.length true] bh false),(1,.ak aA l true),(2,.bg aA (.bY 2 aH) W.th W.st W.ck),(3,.bg aF (.data aA) W.fa W.sf W.cf),(4,.ak ai W.cu true),(5,.ak af W.ma true)]
def iW:RH:=fun _ _ d=> .ret (.bool (D.bool (D.aa d 0)),[(0,.cells [.int .i64 (D.int (D.aa d 1)),.int .i64 (D.int (D.aa d 2))] gW false)])
@[reducible] def vF (a0:D)(p:Int)(q:Int):List BV:=[.aP 0 0,.agg (aK pg av a0)]
@[reducible] def vG (a0:D)(p:Int)(q:Int):List (Nat×aI):=[(0,.cells [.int .i64 p,.int .i64 q] gW false)]
def eD:RH:=fun _ _ d=> .ret (.int .i64 (D.int d),[])
@[reducible] def mG (l:List D):List BV:=[.bw av l,.func (.func z6) [] []]
def mS:RH:=fun _ _ d=> .ret (.bool (D.bool d),[])
@[reducible] def tJ (l:List D):List BV:=[.bw av l,.func (.func z6) [] []]
def tU:RH:=fun _ _ d=> .ret (.bool true,[(0,.cells [.aZ 1 (D.ae d).length true] aW false),(1,.ak aA (D.ae d) true)])
@[reducible] def FQ (a0:D)(pl:List D)(Ai:List D)(c:Nat):List BV:=[.agg (aK pg av a0),.bw af pl,.func (.func A7) [] [.aP 0 0]]
@[reducible] def FV (a0:D)(pl:List D)(Ai:List D)(c:Nat):List (Nat×aI):=[(0,.cells [.aZ 1 c true] aW false),(1,.ak aA Ai true)]
def AI:RH:=fun _ _ d=> .ret (.aZ 0 (D.ae d).length true,[(0,.ak aG (D.ae d) true)])
@[reducible] def FK (l:List D):List BV:=[.bw aG l]
def AK:RH:=fun _ _ d=> .ret (.aZ 0 (D.ae d).length true,[(0,.ak ba (D.ae d) true)])
@[reducible] def FN (l:List D):List BV:=[.bw ba l]
def y8:RH:=fun _ _ d=> .ret (.aZ 0 (D.ae d).length true,[(0,.ak av (D.ae d) true)])
@[reducible] def Es (l:List D):List BV:=[.bw av l]
def AJ:RH:=fun _ _ d=> .ret (.aZ 0 (D.ae d).length true,[(0,.ak iF (D.ae d) true)])
@[reducible] def FL (l:List D):List BV:=[.bw iF l]
def w9:RH:=fun _ _ d=> .ret (.aZ 0 (D.ae d).length true,[(0,.ak bX (D.ae d) true)])
@[reducible] def Ca (l:List D):List BV:=[.bw bX l]
def xU:RH:=fun _ _ d=> .ret (.aZ 0 (D.ae d).length true,[(0,.ak aA (D.ae d) true)])
@[reducible] def IH (l:List D):List BV:=[.bw aA l]
def qk:RH:=fun a m d=>match a with| [.aZ _ _ _]=> .ret (.aZ 1 (D.ae d).length true,m++[(1,.ak af (D.ae d) true)])|_=> .ret (.aZ 0 (D.ae d).length true,[(0,.ak af (D.ae d) true)])
@[reducible] def II (l:List D):List BV:=[.bw af l]
def vH:RH:=fun _ _ d=> .ret (.aZ 0 (D.ae d).length true,[(0,.ak cC (D.ae d) true)])
@[reducible] def FM (l:List D):List BV:=[.bw cC l]
def zB:RH:=fun _ _ d=> .ret (.aZ 0 (D.ae d).length true,[(0,.ak aA (D.ae d) true)])
@[reducible] def O5 (a0:D):List BV:=[.agg (aK pg av a0)]
def tV:RH:=fun _ _ d=> .ret (.aZ 0 (D.ae d).length true,[(0,.ak aA (D.ae d) true)])
@[reducible] def zt (a0:D):List BV:=[.agg (aK pg aH a0)]
def sw:RH:=fun _ M d=> .ret (.bool (D.bool d),M)
@[reducible] def Xh (W:WS)(r:Int):List BV:=[.aP 0 0,.int .i64 r]
def F0:RH:=fun _ M d=> .ret (.int .u8 (D.int d),M)
@[reducible] def OW (W:WS)(r:Int):List BV:=[.aP 0 0,.int .i64 r]
def xb:RH:=fun _ M d=> .ret (.int .u8 (D.int d),M)
@[reducible] def FO (W:WS)(r:Int):List BV:=[.aP 0 0,.int .i64 r]
def sx:RH:=fun _ M d=> .ret (.bool (D.bool d),M)
@[reducible] def wu (W:WS)(r:Int)(k:Int)(o:Int):List BV:=[.aP 0 0,.int .i64 r,.int .u8 k,.int .i64 o]
def eW:RH:=fun _ M d=> .ret (.int .i64 (D.int d),M)
@[reducible] def pG (W:WS)(l:List D):List BV:=[.bw aA l,.func (.func uh) [] [.aP 0 0]]
def fl:RH:=fun _ M d=> .ret (.bool (D.bool d),M)
@[reducible] def wU (W:WS)(l:List D):List BV:=[.bw aA l,.func (.func uh) [] [.aP 0 0]]
def Dw:RH:=fun _ M d=> .ret (.bool (D.bool d),M)
@[reducible] def Mo (W:WS)(y:D):List BV:=[.aP 0 0,.agg (aK pg aH y)]
def Ci:RH:=fun _ M d=> .ret (.bool (D.bool d),M)
@[reducible] def J3 (W:WS)(r:Int)(y:D):List BV:=[.aP 0 0,.int .i64 r,.agg (aK pg aH y)]
def sy:RH:=fun _ M d=> .ret (.int .i64 (D.int d),M)
@[reducible] def wv (W:WS):List BV:=[.aP 0 0]
def nI:RH:=fun _ M d=> .ret (.int .i64 (D.int d),M)
@[reducible] def Mn (W:WS):List BV:=[.aP 0 0]
def Kb:RH:=fun _ M d=> .ret (.bool (D.bool d),M)
@[reducible] def OZ (W:WS)(s:Int):List BV:=[.aP 0 0,.int .i64 s]
def AN:RH:=fun ags _ d=>match ags with| [.bw _ l]=> .ite (D.bool d) (.ret (.tuple [.aP 0 0,.int .i64 0],[(0,.cells [.bw cC l,.aZ 1 (l.length+1) true,.map 2,.map 3,.int .i64 0,.aZ 4 (l.length+1) true] bh false),(1,.ak ai (List.replicate (l.length+1) (.b false)) true),(2,.bg aA (.bY 7 aH) [] [] 0),(3,.bg aF (.data aA) [] [] 0),(4,.ak af (List.replicate (l.length+1) (.z 0)) true)])) (.ret (.tuple [.nA,.int .i64 71],[]))|_=> .bG
@[reducible] def FR (l:List D):List BV:=[.bw cC l]
def xV:RH:=fun _ M d=> .ret (.int .i64 (D.int (D.aa d 0)),M.set 3 (3,.ak ai (D.ae (D.aa d 1)) true))
@[reducible] def Cc (W:WS)(n:Int):List BV:=[.aP 0 0,.int .i64 n]
def ca:RH:=fun _ M d=> .ret (.bool (D.bool (D.aa d 0)),M.set 2 (2,.bg aF (.data aA) (cn (D.aa d 1)) (cK (D.aa d 2)) (cJ (D.aa d 3))))
@[reducible] def cp (W:WS):List BV:=[.aP 0 0]
def oX:RH:=fun _ M d=> .ret (.bool (D.bool d),M)
@[reducible] def tK (W:WS)(y:D):List BV:=[.aP 0 0,.agg (aK pg aH y)]
def wz:RH:=fun _ _ d=> .ret (.bool (D.bool (D.aa d 0)),[(0,.cells [.int .i64 (D.int (D.aa d 1))] af false)])
@[reducible] def Ds (l:List D)(m:Int):List BV:=[.bw ba l,.aP 0 0]
@[reducible] def Dt (l:List D)(m:Int):List (Nat×aI):=[(0,.cells [.int .i64 m] af false)]
def AO:RH:=fun _ _ d=> .ret (.bool (D.bool (D.aa d 0)),[(0,.cells [.int .i64 (D.int (D.aa d 1))] af false)])
@[reducible] def J7 (y:D)(m:Int)(k:Int):List BV:=[.agg (aK pg aG y),.aP 0 0,.int .i64 k]
@[reducible] def J8 (y:D)(m:Int)(k:Int):List (Nat×aI):=[(0,.cells [.int .i64 m] af false)]
def gY:RH:=fun _ M d=> .ret (.int .i64 (D.int (D.aa d 0)),M.set 2 (2,.cells [.int .i64 (D.int (D.aa d 1))] af false))
@[reducible] def r9 (l:List D)(m:Int)(k:Int):List BV:=[.bw aG l,.func (.func nS) [] [.aP 0 0,.aP 1 0]]
@[reducible] def sj (l:List D)(m:Int)(k:Int):List (Nat×aI):=[(0,.cells [.aP 2 0] BX false),(1,.cells [.int .i64 k] af false),(2,.cells [.int .i64 m] af false)]
def eP:RH:=fun _ M d=> .ret (.bool (D.bool (D.aa d 0)),M.set 2 (2,.cells [.int .i64 (D.int (D.aa d 1))] af false))
@[reducible] def vp (l:List D)(m:Int)(k:Int):List BV:=[.bw aG l,.func (.func nS) [] [.aP 0 0,.aP 1 0]]
@[reducible] def vw (l:List D)(m:Int)(k:Int):List (Nat×aI):=[(0,.cells [.aP 2 0] BX false),(1,.cells [.int .i64 k] af false),(2,.cells [.int .i64 m] af false)]
def pH:RH:=fun _ M d=> .ret (.tuple [.agg (aK pg aH (D.aa d 0)),.bool (D.bool (D.aa d 1))],M)
@[reducible] def JD (R:RS)(r:Int):List BV:=[.aP 0 0,.int .i64 r]
def zu:RH:=fun _ M d=> .ret (.int .i64 (D.int d),M)
@[reducible] def Ml (R:RS)(r:Int):List BV:=[.aP 0 0,.int .i64 r]
def wx:RH:=fun _ M d=> .ret (.int .u8 (D.int d),M)
@[reducible] def HE (R:RS)(r:Int):List BV:=[.aP 0 0,.int .i64 r]
def su:RH:=fun _ M d=> .ret (.bool (D.bool d),M)
@[reducible] def wV (R:RS)(r:Int)(k:Int)(o:Int)(b:Bool):List BV:=[.aP 0 0,.int .i64 r,.int .i64 k,.int .i64 o,.bool b]
def hU:RH:=fun _ M d=> .ret (.int .i64 (D.int d),M)
@[reducible] def jt (R:RS)(r:Int)(y:D):List BV:=[.aP 0 0,.int .i64 r,.agg (aK pg aH y)]
def mT:RH:=fun _ M d=> .ret (.int .i64 (D.int d),M)
@[reducible] def p8 (R:RS):List BV:=[.aP 0 0]
def zA:RH:=fun ags _ d=>match ags with| [.bw _ l]=> .ite (D.bool d) (.ret (.tuple [.aP 0 0,.int .i64 0],[(0,.cells [.aZ 1 l.length true,.aZ 2 l.length true,.aZ 3 0 true,.int .i64 0,.aZ 4 (l.length+1) true] bd false),(1,.ak af l true),(2,.ak ai (List.replicate l.length (.b false)) true),(3,.ak bF [] true),(4,.ak af (List.replicate (l.length+1) (.z 0)) true)])) (.ret (.tuple [.nA,.int .i64 71],[]))|_=> .bG
@[reducible] def Cf (l:List D):List BV:=[.bw cC l]
def zv:RH:=fun _ M d=>match M with| [(_,.cells [.aZ _ a _,.aZ _ b _,.aZ _ c _,l,.aZ _ e _] t s),(_,r1),(_,r2),(_,r3),(_,r4)]=> .ret (.aZ 1 (D.ae d).length true,[(0,.cells [.aZ 2 a true,.aZ 3 b true,.aZ 4 c true,l,.aZ 5 e true] t s),(1,.ak aA (D.ae d) true),(2,r1),(3,r2),(4,r3),(5,r4)])|_=> .bG
@[reducible] def Cb (R:RS)(r:Int):List BV:=[.aP 0 0,.int .i64 r]
def zw:RH:=fun _ M d=> .ret (.tuple [],M.set 2 (2,.bg aF (.data aA) (cn (D.aa d 0)) (cK (D.aa d 1)) (cJ (D.aa d 2))))
@[reducible] def HF (W:WS)(r:Int):List BV:=[.aP 0 0,.int .i64 r]
def jL:RH:=fun _ _ d=> .ite (D.bool (D.aa d 0)) (.ret (.tuple [.aP 0 0,.int .i64 0],[(0,.cells [.bw cC (D.ae (D.aa d 1)),.aZ 3 (D.ae (D.aa d 2)).length true,.map 1,.map 2,.int .i64 (D.int (D.aa d 3)),.aZ 4 (D.ae (D.aa d 4)).length true] bh false),(1,.bg aA (.bY 6 aH) (cn (D.aa d 5)) (cK (D.aa d 6)) (cJ (D.aa d 7))),(2,.bg aF (.data aA) (cn (D.aa d 8)) (cK (D.aa d 9)) (cJ (D.aa d 10))),(3,.ak ai (D.ae (D.aa d 2)) true),(4,.ak af (D.ae (D.aa d 4)) true)])) (.ret (.tuple [.nA,.int .i64 71],[]))
@[reducible] def lj (y:D):List BV:=[.agg (aK pg bu y)]
def dF:RH:=fun _ _ d=> .ite (D.bool (D.aa d 0)) (.ret (.tuple [.aP 0 0,.int .i64 0],Rm ⟨D.ae (D.aa d 1),D.ae (D.aa d 2),D.ae (D.aa d 3),D.int (D.aa d 4),D.ae (D.aa d 5)⟩)) (.ret (.tuple [.nA,.int .i64 71],[]))
@[reducible] def dV (y:D):List BV:=[.agg (aK pg bu y)]
def kG:RH:=fun _ _ d=> .ret (.int .i64 (D.int d),[])
@[reducible] def p7 (l:List D):List BV:=[.bw bX l,.func (.func uG) [] []]
def mC:RH:=fun _ _ d=> .ret (.bool (D.bool d),[])
@[reducible] def rW (l:List D):List BV:=[.bw bX l,.func (.func uG) [] []]
def mU:RH:=fun _ _ d=> .ret (.bool (D.bool (D.aa d 0)),[(0,.cells [.int .i64 (D.int (D.aa d 1))] af false)])
@[reducible] def tL (y:D)(m:Int)(k:Int):List BV:=[.agg (aK pg aG y),.aP 0 0,.int .i64 k]
@[reducible] def tP (y:D)(m:Int)(k:Int):List (Nat×aI):=[(0,.cells [.int .i64 m] af false)]
abbrev gy:Nat:=de
@[reducible] def oO:RH:=gY
@[reducible] def oM (l:List D)(m:Int)(k:Int):List BV:=[.bw aG l,.func (.func cF) [] [.aP 0 0,.aP 1 0]]
@[reducible] def oN (l:List D)(m:Int)(k:Int):List (Nat×aI):=[(0,.cells [.aP 2 0] BX false),(1,.cells [.int .i64 k] af false),(2,.cells [.int .i64 m] af false)]
abbrev qZ:Nat:=bp
@[reducible] def AL:RH:=eP
@[reducible] def qK (l:List D)(m:Int)(k:Int):List BV:=[.bw aG l,.func (.func cF) [] [.aP 0 0,.aP 1 0]]
@[reducible] def qN (l:List D)(m:Int)(k:Int):List (Nat×aI):=[(0,.cells [.aP 2 0] BX false),(1,.cells [.int .i64 k] af false),(2,.cells [.int .i64 m] af false)]
def oY:RH:=fun _ _ d=> .ret (.bool (D.bool (D.aa d 0)),[(0,.cells [.int .i64 (D.int (D.aa d 1))] af false),(1,.cells [.int .i64 (D.int (D.aa d 2))] af false),(2,.cells [.int .i64 (D.int (D.aa d 3))] aM false)])
@[reducible] def tM (l:List D)(dp:Int)(n:Int)(HO:Int)(er:Int):List BV:=[.bw ba l,.int .i64 dp,.aP 0 0,.func (.func um) [] [.aP 1 0,.aP 2 0]]
@[reducible] def tQ (l:List D)(dp:Int)(n:Int)(HO:Int)(er:Int):List (Nat×aI):=[(0,.cells [.int .i64 n] af false),(1,.cells [.int .i64 HO] af false),(2,.cells [.int .i64 er] aM false)]
def kH:RH:=fun a _ d=>match a with| [_,_,_,.cX]=> .ite (D.bool (D.aa d 0)) (.ret (.cX,[])) (.ret (.aZ 0 (D.ae (D.aa d 1)).length true,[(0,.ak bW (D.ae (D.aa d 1)) true)]))|_=> .ret (.aZ 0 (D.ae d).length true,[(0,.ak bW (D.ae d) true)])
@[reducible] def sa (l:List D)(dp:Int)(rT:Bool)(w:List D):List BV:=[.bw ba l,.int .i64 dp,.bool rT,.aZ 0 w.length true]
@[reducible] def AG (l:List D)(dp:Int)(rT:Bool)(w:List D):List (Nat×aI):=[(0,.ak bW w true)]
abbrev pf:Nat:=df
@[reducible] def y9:RH:=kH
@[reducible] def s7 (l:List D)(dp:Int)(rT:Bool):List BV:=[.bw ba l,.int .i64 dp,.bool rT,.cX]
def xa:RH:=fun _ _ d=> .ret (.tuple [],[(0,.ak aA (D.ae d) true)])
@[reducible] def AB (l:List D):List BV:=[.aZ 0 l.length true]
@[reducible] def wY (l:List D):List (Nat×aI):=[(0,.ak aA l true)]
def qP:RH:=fun _ M d=> .ret (.aZ 3 (D.ae d).length true,Wm3 M (D.ae d))
@[reducible] def zr (W:WS):List BV:=[.aP 0 0]
def Kc:RH:=fun _ M d=> .ret (.bool (D.bool d),M)
@[reducible] def O3 (W:WS):List BV:=[.aP 0 0]
def Kd:RH:=fun _ M d=> .ret (.bool (D.bool d),M)
@[reducible] def O4 (W:WS)(s:Int):List BV:=[.aP 0 0,.int .i64 s]
def Fb:RH:=fun _ M d=> .ret (.bool (D.bool d),M)
@[reducible] def J5 (R:RS)(s:Int):List BV:=[.aP 0 0,.int .i64 s]
def ql:RH:=fun _ M d=> .ret (.bool (D.bool d),M)
@[reducible] def sb (R:RS)(y:D):List BV:=[.aP 0 0,.agg (aK pg br y)]
def iK:RH:=fun _ M d=> .ret (.int .i64 (D.int d),M)
@[reducible] def jJ (W:WS)(y:D):List BV:=[.aP 0 0,.agg (aK pg br y)]
def tR:RH:=fun _ M d=> .ret (.agg (aK pg bu d),M)
@[reducible] def zq (W:WS):List BV:=[.aP 0 0]
def ss:RH:=fun _ M d=> .ret (.agg (aK pg bu d),M)
@[reducible] def wt (R:RS):List BV:=[.aP 0 0]
abbrev CG:Nat:=fQ
@[reducible] def Ch:RH:=qk
@[reducible] def wT (l:List D):List BV:=[.aZ 0 l.length true]
@[reducible] def wX (l:List D):List (Nat×aI):=[(0,.ak af l true)]
def F3:RH:=fun _ M d=> .ret (.int .i64 (D.int d),M)
@[reducible] def JE (W:WS)(l:List D):List BV:=[.aP 0 0,.bw br l]
def F2:RH:=fun _ M d=> .ret (.tuple [.agg (aK pg aH (D.aa d 0)),.int .i64 (D.int (D.aa d 1))],M)
@[reducible] def OY (W:WS)(r:Int):List BV:=[.aP 0 0,.int .i64 r]
def F4:RH:=fun _ M d=> .ret (.tuple [.agg (aK pg aH (D.aa d 0)),.int .i64 (D.int (D.aa d 1))],M)
@[reducible] def O0 (W:WS)(r:Int):List BV:=[.aP 0 0,.int .i64 r]
def Cj:RH:=fun _ M d=> .ret (.tuple [.aZ 3 (D.ae (D.aa d 0)).length true,.int .i64 (D.int (D.aa d 1))],Wm3 M (D.ae (D.aa d 0)))
@[reducible] def FP (W:WS)(r:Int):List BV:=[.aP 0 0,.int .i64 r]
def Dx:RH:=fun _ M d=> .ret (.tuple [.bw aA (D.ae (D.aa d 0)),.int .i64 (D.int (D.aa d 1))],M)
@[reducible] def HG (W:WS)(r:Int):List BV:=[.aP 0 0,.int .i64 r]
def HK:RH:=fun _ M d=> .ret (.bw aA (D.ae d),M)
@[reducible] def Mp (W:WS)(r:Int):List BV:=[.aP 0 0,.int .i64 r]
def zx:RH:=fun _ M d=> .ret (.tuple [.bw aA (D.ae (D.aa d 0)),.int .i64 (D.int (D.aa d 1))],M)
@[reducible] def Cd (W:WS)(l:List D):List BV:=[.aP 0 0,.bw aA l]
def zy:RH:=fun _ M d=> .ret (.tuple [.bw aA (D.ae (D.aa d 0)),.int .i64 (D.int (D.aa d 1))],M)
@[reducible] def Dq (W:WS)(l:List D):List BV:=[.aP 0 0,.bw br l]
def mV:RH:=fun _ M d=> .ret (.bool (D.bool d),M)
@[reducible] def qL (R:RS)(l:List D):List BV:=[.aP 0 0,.bw br l]
def Fc:RH:=fun _ M d=> .ret (.tuple [.bw aA (D.ae (D.aa d 0)),.int .i64 (D.int (D.aa d 1))],M)
@[reducible] def J6 (R:RS)(r:Int):List BV:=[.aP 0 0,.int .i64 r]
def xW:RH:=fun _ M d=> .ret (.tuple [.bw aA (D.ae (D.aa d 0)),.int .i64 (D.int (D.aa d 1))],M)
@[reducible] def Ce (R:RS)(r:Int):List BV:=[.aP 0 0,.int .i64 r]
def Ck:RH:=fun _ M d=> .ret (.bw aA (D.ae d),M)
@[reducible] def IJ (R:RS)(r:Int):List BV:=[.aP 0 0,.int .i64 r]
def qb:RH:=fun _ M d=> .ret (.tuple [.aZ 1 (D.ae (D.aa d 0)).length true,.int .i64 (D.int (D.aa d 1))],Rm1 M (D.ae (D.aa d 0)))
@[reducible] def sd (R:RS)(l:List D):List BV:=[.aP 0 0,.bw aA l]
def tT:RH:=fun _ M d=> .ret (.tuple [.aZ 1 (D.ae (D.aa d 0)).length true,.int .i64 (D.int (D.aa d 1))],Rm1 M (D.ae (D.aa d 0)))
@[reducible] def xQ (R:RS)(l:List D):List BV:=[.aP 0 0,.bw br l]
def kI:RH:=fun _ M d=> .ret (.tuple [.bw aA (D.ae (D.aa d 0)),.int .i64 (D.int (D.aa d 1))],M)
@[reducible] def p9 (R:RS)(l:List D):List BV:=[.aP 0 0,.bw br l]
def sB:RH:=fun _ M d=> .ret (.tuple [.bw aA (D.ae (D.aa d 0)),.int .i64 (D.int (D.aa d 1))],M)
@[reducible] def AD (R:RS)(l:List D):List BV:=[.aP 0 0,.bw br l]
def ju:RH:=fun _ _ d=> .ret (.bool (D.bool (D.aa d 0)),[(0,.bg aA (.data af) (cn (D.aa d 1)) (cK (D.aa d 2)) (cJ (D.aa d 3)))])
@[reducible] def s8 (m:List (D×D))(st:List Nat)(ck:Nat)(l:List D):List BV:=[.map 0,.bw aA l]
@[reducible] def ta (m:List (D×D))(st:List Nat)(ck:Nat)(l:List D):List (Nat×aI):=[(0,.bg aA (.data af) m st ck)]
def sA:RH:=fun _ _ d=> .ret (.bool (D.bool (D.aa d 0)),[(0,.ak aA (D.ae (D.aa d 1)) true)])
@[reducible] def wW (a:List D)(b:List D):List BV:=[.aZ 0 a.length true,.bw aA b]
@[reducible] def wZ (a:List D)(b:List D):List (Nat×aI):=[(0,.ak aA a true)]
def iV:RH:=fun _ _ d=> .ret (.aZ 0 (D.ae d).length true,[(0,.ak aA (D.ae d) true)])
@[reducible] def qM (l:List D):List BV:=[.bw aA l]
def AM:RH:=fun _ _ d=> .ret (.aZ 0 (D.ae d).length true,[(0,.ak aA (D.ae d) true)])
@[reducible] def J4 (l:List D):List BV:=[.bw aA l]
def tc:RH:=fun _ _ d=> .ret (.aZ 0 (D.ae d).length true,[(0,.ak aA (D.ae d) true)])
@[reducible] def yZ (l:List D):List BV:=[.aZ 0 l.length true]
@[reducible] def oV (l:List D):List (Nat×aI):=[(0,.ak aA l true)]
def jK:RH:=fun _ M d=> .ret (.tuple [.aZ 3 (D.ae (D.aa d 0)).length true,.aZ 4 (D.ae (D.aa d 1)).length true,.int .i64 (D.int (D.aa d 2))],agB M (D.ae (D.aa d 0)) (D.ae (D.aa d 1)))
@[reducible] def qj (W:WS)(l:List D):List BV:=[.aP 0 0,.bw br l]
def F5:RH:=fun _ M d=> .ret (.tuple [.aZ 3 (D.ae (D.aa d 0)).length true,.int .i64 (D.int (D.aa d 1))],Wm3 M (D.ae (D.aa d 0)))
@[reducible] def O1 (W:WS)(l:List D):List BV:=[.aP 0 0,.bw br l]
def Cm:RH:=fun _ M d=> .ret (.tuple [.aZ 3 (D.ae (D.aa d 0)).length true,.int .i64 (D.int (D.aa d 1))],Wm3 M (D.ae (D.aa d 0)))
@[reducible] def O2 (W:WS)(l:List D):List BV:=[.aP 0 0,.bw br l]
def HL:RH:=fun _ M d=> .ret (.tuple [.int .i64 (D.int (D.aa d 0)),.int .i64 (D.int (D.aa d 1)),.int .i64 (D.int (D.aa d 2))],M)
@[reducible] def Mq (W:WS)(l:List D):List BV:=[.aP 0 0,.bw br l]
def gM:RH:=fun _ M d=> .ret (.bool (D.bool (D.aa d 0)),M.set 3 (3,.bg aA (.data af) (cn (D.aa d 1)) (cK (D.aa d 2)) (cJ (D.aa d 3))))
@[reducible] def kh (W:WS)(m:List (D×D))(st:List Nat)(ck:Nat):List BV:=[.aP 0 0,.aP 1 0]
@[reducible] def ki (W:WS)(m:List (D×D))(st:List Nat)(ck:Nat):List (Nat×aI):=(Wm2 W m st ck)
def lq:RH:=fun _ M d=> .ret (.int .i64 (D.int (D.aa d 0)),(M.set 2 (2,.bg aA (.bY 8 aH) (cn (D.aa d 1)) (cK (D.aa d 2)) (cJ (D.aa d 3)))).set 3 (3,.bg aF (.data aA) (cn (D.aa d 4)) (cK (D.aa d 5)) (cJ (D.aa d 6))))
@[reducible] def oU (W:WS)(l:List D):List BV:=[.aP 0 0,.aZ 1 l.length true]
@[reducible] def oW (W:WS)(l:List D):List (Nat×aI):=(WmL W l)
abbrev hZ:Nat:=cy
@[reducible] def qa:RH:=eW
@[reducible] def kD (l:List D)(m:List (D×D))(st:List Nat)(ck:Nat):List BV:=[.bw aA l,.func (.func jy) [] [.aP 0 0]]
@[reducible] def kF (l:List D)(m:List (D×D))(st:List Nat)(ck:Nat):List (Nat×aI):=[(0,.cells [.map 1] dP false),(1,.bg aA (.data af) m st ck)]
abbrev rY:Nat:=bM
@[reducible] def B1:RH:=fl
@[reducible] def rV (l:List D)(m:List (D×D))(st:List Nat)(ck:Nat):List BV:=[.bw aA l,.func (.func jy) [] [.aP 0 0]]
@[reducible] def rX (l:List D)(m:List (D×D))(st:List Nat)(ck:Nat):List (Nat×aI):=[(0,.cells [.map 1] dP false),(1,.bg aA (.data af) m st ck)]
def lP:RH:=fun _ M d=>match M with| [(_,.cells [a,b,.aZ _ _ _,c,e] t s),r1,r2,_,r4]=> .ret (.int .i64 (D.int (D.aa d 0)),[(0,.cells [a,b,.aZ 3 (D.ae (D.aa d 1)).length true,c,e] t s),r1,r2,(3,.ak bF (D.ae (D.aa d 1)) true),r4])|_=> .bG
@[reducible] def nH (R:RS)(l:List D):List BV:=[.aP 0 0,.bw aA l]
def wy:RH:=fun _ M d=>match M with| [(0,.cells [p,.aZ _ n t,_,_,la,.aZ _ k u] ty s),(1,_),(2,_),(3,c),(4,e)]=> .ret (.tuple [.aZ 1 (D.ae (D.aa d 0)).length true,.int .i64 (D.int (D.aa d 1))],[(0,.cells [p,.aZ 4 n t,.map 2,.map 3,la,.aZ 5 k u] ty s),(1,.ak aA (D.ae (D.aa d 0)) true),(2,.bg aA (.bY 8 aH) (cn (D.aa d 2)) (cK (D.aa d 3)) (cJ (D.aa d 4))),(3,.bg aF (.data aA) (cn (D.aa d 5)) (cK (D.aa d 6)) (cJ (D.aa d 7))),(4,c),(5,e)])|_=> .bG
@[reducible] def HH (W:WS)(l:List D):List BV:=[.aP 0 0,.bw br l]
def Cl:RH:=fun _ M d=>match M with| [(_,.cells [a,b,.aZ _ _ _,c,e] t s),r1,r2,_,r4]=> .ret (.tuple [.bw aA (D.ae (D.aa d 0)),.int .i64 (D.int (D.aa d 1))],[(0,.cells [a,b,.aZ 3 (D.ae (D.aa d 2)).length true,c,e] t s),r1,r2,(3,.ak bF (D.ae (D.aa d 2)) true),r4])|_=> .bG
@[reducible] def IK (R:RS)(l:List D):List BV:=[.aP 0 0,.bw br l]
def qm:RH:=fun _ _ d=> .ret (.aZ 0 (D.ae d).length true,[(0,.ak aA (D.ae d) true)])
@[reducible] def Dr (a0:D):List BV:=[.agg (aK pg aH a0)]
def tS:RH:=fun _ _ d=> .ret (.bool (D.bool d),[])
@[reducible] def xP:List BV:=[]
@[reducible] def xR:List (Nat×aI):=[]
def gZ:RH:=fun _ _ d=> .ret (.bool (D.bool d),[])
@[reducible] def jI (y:D)(l:List D):List BV:=[.agg (aK pg bu y),.bw br l]
def Dv:RH:=fun _ M d=>match M with| [(0,.cells [pq,cvq,m1q,m2q,_,_] tyq sq),_,_,cq,_]=> .ret (.int .i64 (D.int (D.aa d 8)),[(0,.cells [pq,cvq,m1q,m2q,.int .i64 (D.int (D.aa d 0)),.aZ 4 (D.ae (D.aa d 7)).length true] tyq sq),(1,.bg aA (.bY 1 aH) (cn (D.aa d 1)) (cK (D.aa d 2)) (cJ (D.aa d 3))),(2,.bg aF (.data aA) (cn (D.aa d 4)) (cK (D.aa d 5)) (cJ (D.aa d 6))),cq,(4,.ak af (D.ae (D.aa d 7)) true)])|_=> .bG
@[reducible] def Nh (W:WS)(y:D):List BV:=[.aP 0 0,.agg (aK pg aH y)]
def F1:RH:=fun _ M d=>match M with| [(0,.cells [pq,cvq,m1q,m2q,_,_] tyq sq),_,_,cq,_]=> .ret (.tuple [.int .i64 (D.int (D.aa d 8)),.int .i64 (D.int (D.aa d 9))],[(0,.cells [pq,cvq,m1q,m2q,.int .i64 (D.int (D.aa d 0)),.aZ 4 (D.ae (D.aa d 7)).length true] tyq sq),(1,.bg aA (.bY 1 aH) (cn (D.aa d 1)) (cK (D.aa d 2)) (cJ (D.aa d 3))),(2,.bg aF (.data aA) (cn (D.aa d 4)) (cK (D.aa d 5)) (cJ (D.aa d 6))),cq,(4,.ak af (D.ae (D.aa d 7)) true)])|_=> .bG
@[reducible] def OX (W:WS):List BV:=[.aP 0 0,.agg (aK pg aH (D.r [(D.z 1),(D.z 0),(D.r [(D.z 0),(D.z 0),(D.s []),(D.r []),(D.z 0)]),(D.r []),(D.z 0),(D.z 0),(D.z 0),(D.z 0),(D.z 0),(D.b false),(D.r []),(D.r [])]))]
def Du:RH:=fun _ M d=>match M with| [(0,.cells [pq,cvq,m1q,m2q,_,_] tyq sq),_,_,cq,_]=> .ret (.tuple [.int .i64 (D.int (D.aa d 8)),.int .i64 (D.int (D.aa d 9))],[(0,.cells [pq,cvq,m1q,m2q,.int .i64 (D.int (D.aa d 0)),.aZ 4 (D.ae (D.aa d 7)).length true] tyq sq),(1,.bg aA (.bY 1 aH) (cn (D.aa d 1)) (cK (D.aa d 2)) (cJ (D.aa d 3))),(2,.bg aF (.data aA) (cn (D.aa d 4)) (cK (D.aa d 5)) (cJ (D.aa d 6))),cq,(4,.ak af (D.ae (D.aa d 7)) true)])|_=> .bG
@[reducible] def Mm (W:WS)(r:Int)(s:Int):List BV:=[.aP 0 0,.int .i64 r,.int .u8 s]
def frcN {R:Type}(n:Nat)(k:Nat->R):R:=match n with
 |0=>k 0
 |m+1=>k (m+1)
def orcGo:Nat->Nat->List sn->sn
 |0,_,_=> .all
 |f+1,n,st=>frcN (n/16) fun m=>frcN (m/256) fun q=>match n % 16,st with
  |1,st=>orcGo f m (.all::st)
  |2,b::a::st=>orcGo f m (.HQ a b::st)
  |3,a::st=>orcGo f m (.lit a::st)
  |4,a::st=>orcGo f m (.sm a::st)
  |5,a::st=>orcGo f q (.Nd (m % 256) false a::st)
  |6,a::st=>orcGo f q (.no (m % 256) false a::st)
  |7,a::st=>orcGo f q (.Nd (m % 256) true a::st)
  |8,a::st=>orcGo f q (.no (m % 256) true a::st)
  |9,a::st=>orcGo f q (.ls a (m % 256)::st)
  |10,a::st=>frcN (q/256) fun r=>orcGo f r (.ys a (m % 256) (q % 256)::st)
  |11,a::st=>frcN (q/256) fun r=>orcGo f r (.ns a (m % 256) (q % 256)::st)
  |_,a::_=>a
  |_,_=> .all
def orc (n:Nat):sn:=orcGo 2000 n []
def hdS (f:FuncId)(n:Nat)(e:List (Nat×BV))(L:List (Nat×aI)):au:=afL pg f n e L
def wrC (W:WS)(a b c d:Nat):aI:= .cells [(.bw cC W.pa),(.aZ a W.cu.length true),(.map b),(.map c),(.int .i64 W.la),(.aZ d W.ma.length true)] bh false
def wrT (W:WS)(f:Nat):aI:= .bg aA (.bY f aH) W.th W.st W.ck
def wrF (W:WS):aI:= .bg aF (.data aA) W.fa W.sf W.cf
def rrC (R:RS)(a b c d:Nat):aI:= .cells [(.aZ a R.pa.length true),(.aZ b R.cu.length true),(.aZ c R.th.length true),(.int .i64 R.la),(.aZ d R.ma.length true)] bd false
abbrev PH (f:FuncId)(A:List BV)(M:List (Nat×aI))(p:Nat)(R:RH)(Q:D->Prop):=BZ pg f A M p (R A M) Q
abbrev lk (C:cm)(G:mR)(s:au)(t:RT):Prop:=rk pg C G t->ay pg C.f C.rs G s
abbrev lp (C:cm)(ts:List TypeId)(ds:List D)(Q:D->Prop)(t:RT):Prop:=rk pg C (.dQ Q) t->fk pg C.f ts ds C.rs Q
abbrev lh (C:cm)(A:List BV)(M:List (Nat×aI))(p:Nat)(R:RH)(Q:D->Prop)(t:RT):Prop:=rk pg C (.bx p (R A M) Q) t->BZ pg C.f A M p (R A M) Q
def oE (C:cm){G:mR}{s:au}(o:Nat){t:RT}(hp:G.p<=C.p:=by exact aho _)(em:RT.C0 (orc o) (Go.PB.runT pg C 600 s)=RT.CZ (orc o) [] (Go.PB.runT pg C 600 s):=by as_aux_lemma=>kernel_rfl)(e:RT.pr (orc o) (Go.PB.runT pg C 600 s)=t:=by as_aux_lemma=>kernel_rfl):lk C G s t:=
 ay.nB KI hp 600 (orc o) em e
def oP (C:cm){Q:D->Prop}{ts:List TypeId}{ds:List D}(o:Nat){t:RT}(hin:(gq pg C.f (xO pg ts ds) .normal).isSome=true:=by as_aux_lemma=>kernel_rfl)
 (em:RT.C0 (orc o) (Go.PB.runT pg C 600 ⟨(gq pg C.f (xO pg ts ds) .normal).getD default,[],hS⟩)=RT.CZ (orc o) [] (Go.PB.runT pg C 600 ⟨(gq pg C.f (xO pg ts ds) .normal).getD default,[],hS⟩):=by as_aux_lemma=>kernel_rfl)
 (e:RT.pr (orc o) (Go.PB.runT pg C 600 ⟨(gq pg C.f (xO pg ts ds) .normal).getD default,[],hS⟩)=t:=by as_aux_lemma=>kernel_rfl):lp C ts ds Q t:=
 fk.nB KI 600 (orc o) hin em e
def oH (C:cm){Q:D->Prop}{A:List BV}{M:List (Nat×aI)}{p:Nat}{R:RH}(o:Nat){t:RT}(hp:C.bx=some p:=by rfl)(hin:(gq pg C.f A .normal).isSome=true:=by as_aux_lemma=>kernel_rfl)
 (em:RT.C0 (orc o) (Go.PB.runT pg C 600 ⟨(gq pg C.f A .normal).getD default,[],hL M⟩)=RT.CZ (orc o) [] (Go.PB.runT pg C 600 ⟨(gq pg C.f A .normal).getD default,[],hL M⟩):=by as_aux_lemma=>kernel_rfl)
 (e:RT.pr (orc o) (Go.PB.runT pg C 600 ⟨(gq pg C.f A .normal).getD default,[],hL M⟩)=t:=by as_aux_lemma=>kernel_rfl):lh C A M p R Q t:=
 BZ.nB KI 600 (orc o) hp hin em e
end Go.Proofs
namespace Go.Proofs
open Go Go.PB
attribute [simp] rk
abbrev Ei:=List UInt8
abbrev aw (l:List Int):List D:=l.map D.z
def bO {x:Int}(h0:-(2^63)<=x)(h1:x<2^63):IntKind.i64.wrap x=x:=by
 have e1:(IntKind.i64).bits=64:=rfl
 have e2:(IntKind.i64).signed=true:=rfl
 simp only[wp,e1,e2,ah0,agW]
 omega
inductive aE where
 |mk (k n:Int) (s:Ei) (l:List aE) (r:Int)
 deriving Inhabited
namespace aE
def k:aE->Int|mk k _ _ _ _=>k
def n:aE->Int|mk _ n _ _ _=>n
def s:aE->Ei|mk _ _ s _ _=>s
def l:aE->List aE|mk _ _ _ l _=>l
def r:aE->Int|mk _ _ _ _ r=>r
mutual
def ax:aE->D
 | .mk k n s l r=> .r [.z k,.z n,.s s,.r (Ek l),.z r]
def Ek:List aE->List D
 | []=>[]
 |v::r=>ax v::Ek r
end
def vN:∀l,Ek l=l.map ax
 | []=>rfl
 |v::r=>by simp[Ek,vN r]
def GM {M:aE->Prop}(h:∀v:aE,(∀x∈v.l,M x)->M v):∀v,M v:=by
 intro v
 refine aE.rec (motive_1:=M) (motive_2:=fun l=>∀x∈l,M x) ?_ ?_ ?_ v
 ·intro k n s l r ih;exact h (.mk k n s l r) ih
 ·intro x hx;cases hx
 ·intro v l h1 h2 x hx
  rcases ag9.1 hx with rfl|hx
  ·exact h1
  ·exact h2 x hx
@[simp] def cU (v:aE):D.int (D.aa v.ax 0)=v.k:=by cases v;rfl
@[simp] def lu (v:aE):D.int (D.aa v.ax 1)=v.n:=by cases v;rfl
@[simp] def BD (v:aE):D.b8 (D.aa v.ax 2)=v.s:=by cases v;rfl
@[simp] def vA (v:aE):D.ae (D.aa v.ax 3)=v.l.map ax:=by cases v;simp[ax,D.aa,D.at,D.ae,vN,l]
@[simp] def BC (v:aE):D.int (D.aa v.ax 4)=v.r:=by cases v;rfl
def aD (v:aE):v.ax= .r [.z v.k,.z v.n,.s v.s,.r (v.l.map ax),.z v.r]:=by cases v;simp[ax,vN,k,n,s,l,r]
@[simp] def afE (v:aE):D.ae v.ax=[.z v.k,.z v.n,.s v.s,.r (v.l.map ax),.z v.r]:=by rw[aD];rfl
mutual
def size:aE->Nat
 | .mk _ _ _ l _=>1+bB l
def bB:List aE->Nat
 | []=>0
 |v::r=>size v+bB r
end
mutual
def depth:aE->Nat
 | .mk k _ _ l _=>if k=3 then hY l+1 else 0
def hY:List aE->Nat
 | []=>0
 |v::r=>max (depth v) (hY r)
end
def field (v:aE):Bool:=
 if v.k=0 then v.n==0&&v.s==[]&&v.l.length==0&&v.r==0
 else if v.k=1 then v.s==[]&&v.l.length==0&&v.r==0
 else if v.k=2 then v.n==0&&decide (v.s.length<=256)&&v.l.length==0&&v.r==0
 else if v.k=3 then v.n==0&&v.s==[]&&v.r==0
 else if v.k=4 then v.n==0&&v.s==[]&&v.l.length==0&&decide (v.r≥1)
 else false
mutual
def eK:aE->Bool
 | .mk k n s l r=>kU l&&field (.mk k n s l r)
def kU:List aE->Bool
 | []=>true
 |v::r=>eK v&&kU r
end
def cN (v:aE):Bool:=decide (v.size<=512)&&decide (v.depth<=16)&&v.eK
mutual
def ok:aE->Prop
 | .mk k n s l r=>0<=k/\k<256/\-2^63<=n/\n<2^63/\s.length<2^63/\l.length<2^63/\-2^63<=r/\r<2^63/\Oc l
def Oc:List aE->Prop
 | []=>True
 |v::r=>ok v/\Oc r
end
def yK:∀l,Oc l↔∀x∈l,ok x
 | []=>by simp[Oc]
 |v::r=>by simp[Oc,yK r]
def gL (v:aE):v.ok↔0<=v.k/\v.k<256/\-2^63<=v.n/\v.n<2^63/\v.s.length<2^63/\v.l.length<2^63/\-2^63<=v.r/\v.r<2^63/\∀x∈v.l,ok x:=by
 cases v;simp only[ok,yK,k,n,s,l,r]
def ok.k {v:aE}(h:v.ok):IntKind.i64.wrap v.k=v.k:=by rw[gL]at h;exact bO (by omega) (by omega)
def ok.len {v:aE}(h:v.ok):v.l.length<2^63:=by rw[gL]at h;omega
def ok.mem {v:aE}(h:v.ok){x:aE}(hx:x∈v.l):x.ok:=by rw[gL]at h;exact h.2.2.2.2.2.2.2.2 x hx
def eo (v:aE):v.size=1+bB v.l:=by cases v;rfl
def Kx (v:aE):v.depth=if v.k=3 then hY v.l+1 else 0:=by cases v;rfl
def nT (v:aE):v.eK=(kU v.l&&v.field):=by cases v;rfl
def Ln (v:aE):0<v.size:=by rw[eo];omega
def dx:∀l:List aE,l.length<=bB l
 | []=>by simp[bB]
 |v::r=>by have:=Ln v;have:=dx r;simp only[bB,ahv];omega
end aE
def bn {α:Type}{f:α->D}{l:List α}{i:Nat}{x:α}(h:l[i]?=some x):D.at (l.map f) i=f x:=by simp[D.at,List.getD,h]
def aB {α:Type}{l:List α}{i:Nat}{x:α}{r:List α}(h:l.drop i=x::r):l[i]?=some x/\l.drop (i+1)=r/\i<l.length:=by
 have h1:i<l.length:=by
  have:=ahE List.length h;simp at this;omega
 refine⟨by have:=ahE (·[0]?) h;simpa using this,?_,h1⟩
 rw[<-aiO,h];rfl
def drop_nil {α:Type}{l:List α}{i:Nat}(h:l.drop i=[]):l.length<=i:=List.drop_eq_nil_iff.1 h
def N2 {n m:Int}{h:Decidable (m>n)}:@ite Int (m>n) h m n=max n m:=by split<;>omega
def bo {i n:Nat}(h:i<n)(hn:n<2^63):IntKind.i64.wrap ((i:Int)+1)=((i+1:Nat):Int):=by rw[bO (by omega) (by omega)];rfl
def aaf {k:Int}(h0:0<=k)(h1:k<256):IntKind.i64.wrap k=k:=bO (by omega) (by omega)
def aU {i n:Nat}(h:i<n):cP (i:Int) n=true:=by simp[cP];omega
@[simp] def lK (v:aE):bU pg av v.ax=v.ax:=by cases v;kernel_rfl
end Go.Proofs
namespace Go.Proofs
open Go Go.PB
def X2 (l:List D):kg l 0 l.length=l:=by cases l with|nil=>rfl|cons a r=>simp only[kg,ahv];rw[show Nat.beq (r.length+1) 0=false from rfl];simp
def aE.CL:∀{l:List aE} {x:aE},aE.kU l=true->x∈l->x.eK=true
 |v::r,x,h,hx=>by
  simp only[aE.kU,ag2]at h
  rcases ag9.1 hx with rfl|hx
  ·exact h.1
  ·exact CL h.2 hx
def aE.ok.aa {v x:aE}(_:v.ok)(hf:v.eK=true)(hx:x∈v.l):x.eK=true:=by
 rw[aE.nT,ag2]at hf;exact aE.CL hf.1 hx
def aE.Yd {v x:aE}(hf:v.eK=true)(hx:x∈v.l):v.k=3:=by
 rw[aE.nT,ag2]at hf
 have:=hf.2
 have hl:v.l≠[]:=fun h=>by rw[h]at hx;cases hx
 unfold aE.field at this
 by_cases h3:v.k=3
 ·exact h3
 ·simp[h3,hl]at this
def aE.eb:∀{l:List aE} {x:aE},x∈l->x.size<=bB l
 |v::r,x,h=>by
  unfold bB
  rcases ag9.1 h with rfl|h
  ·omega
  ·have:=eb h;omega
def aE.DU:∀{l:List aE} {x:aE},x∈l->x.depth<=hY l
 |v::r,x,h=>by
  unfold hY
  rcases ag9.1 h with rfl|h
  ·omega
  ·have:=DU h;omega
end Go.Proofs
namespace Go.Proofs
open Go Go.PB
abbrev Dm (l:List Ei):List D:=l.map D.s
inductive Ex where
 |mk (k:Int) (n:Int) (s:Ei) (l:List Ex)
 deriving Inhabited
namespace Ex
def k:Ex->Int|mk x _ _ _=>x
def n:Ex->Int|mk _ x _ _=>x
def s:Ex->Ei|mk _ _ x _=>x
def l:Ex->List Ex|mk _ _ _ x=>x
mutual
def ax:Ex->D
 | .mk k n s l=> .r [.z k,.z n,.s s,.r (Ek l)]
def Ek:List Ex->List D
 | []=>[]
 |v::r=>ax v::Ek r
end
def vN:∀l,Ek l=l.map ax
 | []=>rfl
 |v::r=>by simp[Ek,vN r]
def aD (v:Ex):v.ax= .r [.z v.k,.z v.n,.s v.s,.r (v.l.map ax)]:=by cases v;simp[ax,vN,k,n,s,l]
@[simp] def cU (v:Ex):D.int (D.aa v.ax 0)=v.k:=by rw[aD];rfl
@[simp] def lu (v:Ex):D.int (D.aa v.ax 1)=v.n:=by rw[aD];rfl
@[simp] def BD (v:Ex):D.b8 (D.aa v.ax 2)=v.s:=by rw[aD];rfl
@[simp] def vA (v:Ex):D.ae (D.aa v.ax 3)=v.l.map ax:=by rw[aD];rfl
@[simp] def re (v:Ex):bU pg aG v.ax=v.ax:=by rw[aD];kernel_rfl
mutual
def ok:Ex->Prop
 | .mk k n s l=>0<=k/\k<256/\-2^63<=n/\n<2^63/\s.length<2^63/\l.length<2^63/\Oc l
def Oc:List Ex->Prop
 | []=>True
 |v::r=>ok v/\Oc r
end
def yK:∀l,Oc l↔∀x∈l,ok x
 | []=>by simp[Oc]
 |v::r=>by simp[Oc,yK r]
def gL (v:Ex):v.ok↔0<=v.k/\v.k<256/\-2^63<=v.n/\v.n<2^63/\v.s.length<2^63/\v.l.length<2^63/\(∀x∈v.l,x.ok):=by
 cases v;simp only[ok,yK,k,n,s,l]
def GM {M:Ex->Prop}(h:∀v:Ex,(∀x∈v.l,M x)->M v):∀v,M v:=by
 intro v
 refine Ex.rec (motive_1:=M) (motive_2:=fun l=>∀x∈l,M x) ?_ ?_ ?_ v
 ·intro k n s l h3;exact h _ h3
 ·intro x hx;cases hx
 ·intro v l h1 h2 x hx
  rcases ag9.1 hx with rfl|hx
  ·exact h1
  ·exact h2 x hx
end Ex
inductive St where
 |mk (op:Int) (nm:Ei) (sc:Ei) (ab:Int) (wh:Int) (a:Ex) (b:Ex) (th:List St) (el:List St) (co:List St) (wi:List Ei)
 deriving Inhabited
namespace St
def op:St->Int|mk x _ _ _ _ _ _ _ _ _ _=>x
def nm:St->Ei|mk _ x _ _ _ _ _ _ _ _ _=>x
def sc:St->Ei|mk _ _ x _ _ _ _ _ _ _ _=>x
def ab:St->Int|mk _ _ _ x _ _ _ _ _ _ _=>x
def wh:St->Int|mk _ _ _ _ x _ _ _ _ _ _=>x
def a:St->Ex|mk _ _ _ _ _ x _ _ _ _ _=>x
def b:St->Ex|mk _ _ _ _ _ _ x _ _ _ _=>x
def th:St->List St|mk _ _ _ _ _ _ _ x _ _ _=>x
def el:St->List St|mk _ _ _ _ _ _ _ _ x _ _=>x
def co:St->List St|mk _ _ _ _ _ _ _ _ _ x _=>x
def wi:St->List Ei|mk _ _ _ _ _ _ _ _ _ _ x=>x
mutual
def ax:St->D
 | .mk op nm sc ab wh a b th el co wi=> .r [.z op,.s nm,.s sc,.z ab,.z wh,a.ax,b.ax,.r (Ek th),.r (Ek el),.r (Ek co),.r (Dm wi)]
def Ek:List St->List D
 | []=>[]
 |v::r=>ax v::Ek r
end
def vN:∀l,Ek l=l.map ax
 | []=>rfl
 |v::r=>by simp[Ek,vN r]
def aD (v:St):v.ax= .r [.z v.op,.s v.nm,.s v.sc,.z v.ab,.z v.wh,v.a.ax,v.b.ax,.r (v.th.map ax),.r (v.el.map ax),.r (v.co.map ax),.r (Dm v.wi)]:=by cases v;simp[ax,vN,op,nm,sc,ab,wh,a,b,th,el,co,wi]
@[simp] def X7 (v:St):D.int (D.aa v.ax 0)=v.op:=by rw[aD];rfl
@[simp] def xj (v:St):D.b8 (D.aa v.ax 1)=v.nm:=by rw[aD];rfl
@[simp] def Sb (v:St):D.b8 (D.aa v.ax 2)=v.sc:=by rw[aD];rfl
@[simp] def HY (v:St):D.int (D.aa v.ax 3)=v.ab:=by rw[aD];rfl
@[simp] def NU (v:St):D.int (D.aa v.ax 4)=v.wh:=by rw[aD];rfl
@[simp] def CB (v:St):D.aa v.ax 5=v.a.ax:=by rw[aD];rfl
@[simp] def KA (v:St):D.aa v.ax 6=v.b.ax:=by rw[aD];rfl
@[simp] def kQ (v:St):D.ae (D.aa v.ax 7)=v.th.map ax:=by rw[aD];rfl
@[simp] def CC (v:St):D.ae (D.aa v.ax 8)=v.el.map ax:=by rw[aD];rfl
@[simp] def iI (v:St):D.ae (D.aa v.ax 9)=v.co.map ax:=by rw[aD];rfl
@[simp] def CE (v:St):D.ae (D.aa v.ax 10)=Dm v.wi:=by rw[aD];rfl
@[simp] def re (v:St):bU pg ba v.ax=v.ax:=by
 rw[aD];simp only[Ex.aD];kernel_rfl
mutual
def ok:St->Prop
 | .mk op nm sc ab wh a b th el co wi=>0<=op/\op<256/\nm.length<2^63/\sc.length<2^63/\0<=ab/\ab<256/\0<=wh/\wh<256/\a.ok/\b.ok/\th.length<2^63/\Oc th/\el.length<2^63/\Oc el/\co.length<2^63/\Oc co/\wi.length<2^63/\(∀x∈wi,x.length<2^63)
def Oc:List St->Prop
 | []=>True
 |v::r=>ok v/\Oc r
end
def yK:∀l,Oc l↔∀x∈l,ok x
 | []=>by simp[Oc]
 |v::r=>by simp[Oc,yK r]
def gL (v:St):v.ok↔0<=v.op/\v.op<256/\v.nm.length<2^63/\v.sc.length<2^63/\0<=v.ab/\v.ab<256/\0<=v.wh/\v.wh<256/\v.a.ok/\v.b.ok/\v.th.length<2^63/\(∀x∈v.th,x.ok)/\v.el.length<2^63/\(∀x∈v.el,x.ok)/\v.co.length<2^63/\(∀x∈v.co,x.ok)/\v.wi.length<2^63/\(∀x∈v.wi,x.length<2^63):=by
 cases v;simp only[ok,yK,op,nm,sc,ab,wh,a,b,th,el,co,wi]
def GM {M:St->Prop}(h:∀v:St,(∀x∈v.th,M x)->(∀x∈v.el,M x)->(∀x∈v.co,M x)->M v):∀v,M v:=by
 intro v
 refine St.rec (motive_1:=M) (motive_2:=fun l=>∀x∈l,M x) ?_ ?_ ?_ v
 ·intro op nm sc ab wh a b th el co wi h7 h8 h9;exact h _ h7 h8 h9
 ·intro x hx;cases hx
 ·intro v l h1 h2 x hx
  rcases ag9.1 hx with rfl|hx
  ·exact h1
  ·exact h2 x hx
end St
structure ga where
 nm:Ei
 v:aE
 deriving Inhabited
namespace ga
def ax (v:ga):D:= .r [.s v.nm,v.v.ax]
def aD (v:ga):v.ax= .r [.s v.nm,v.v.ax]:=rfl
@[simp] def xj (v:ga):D.b8 (D.aa v.ax 0)=v.nm:=by rw[aD];rfl
@[simp] def mI (v:ga):D.aa v.ax 1=v.v.ax:=by rw[aD];rfl
@[simp] def re (v:ga):bU pg iF v.ax=v.ax:=by
 rw[aD];simp only[aE.aD];kernel_rfl
def ok (v:ga):Prop:=v.nm.length<2^63/\v.v.ok
end ga
structure Wh where
 k:Int
 h:Int
 v:aE
 vs:List aE
 n:Int
 lo:Int
 of:Int
 km:Int
 set:Int
 B2:Bool
 co:List St
 ns:List ga
 deriving Inhabited
namespace Wh
def ax (v:Wh):D:= .r [.z v.k,.z v.h,v.v.ax,.r (v.vs.map aE.ax),.z v.n,.z v.lo,.z v.of,.z v.km,.z v.set,.b v.B2,.r (v.co.map St.ax),.r (v.ns.map ga.ax)]
def aD (v:Wh):v.ax= .r [.z v.k,.z v.h,v.v.ax,.r (v.vs.map aE.ax),.z v.n,.z v.lo,.z v.of,.z v.km,.z v.set,.b v.B2,.r (v.co.map St.ax),.r (v.ns.map ga.ax)]:=rfl
@[simp] def cU (v:Wh):D.int (D.aa v.ax 0)=v.k:=by rw[aD];rfl
@[simp] def mH (v:Wh):D.int (D.aa v.ax 1)=v.h:=by rw[aD];rfl
@[simp] def mI (v:Wh):D.aa v.ax 2=v.v.ax:=by rw[aD];rfl
@[simp] def sP (v:Wh):D.ae (D.aa v.ax 3)=v.vs.map aE.ax:=by rw[aD];rfl
@[simp] def lu (v:Wh):D.int (D.aa v.ax 4)=v.n:=by rw[aD];rfl
@[simp] def zf (v:Wh):D.int (D.aa v.ax 5)=v.lo:=by rw[aD];rfl
@[simp] def di (v:Wh):D.int (D.aa v.ax 6)=v.of:=by rw[aD];rfl
@[simp] def gg (v:Wh):D.int (D.aa v.ax 7)=v.km:=by rw[aD];rfl
@[simp] def i7 (v:Wh):D.int (D.aa v.ax 8)=v.set:=by rw[aD];rfl
@[simp] def o0 (v:Wh):D.bool (D.aa v.ax 9)=v.B2:=by rw[aD];rfl
@[simp] def iI (v:Wh):D.ae (D.aa v.ax 10)=v.co.map St.ax:=by rw[aD];rfl
@[simp] def fv (v:Wh):D.ae (D.aa v.ax 11)=v.ns.map ga.ax:=by rw[aD];rfl
@[simp] def re (v:Wh):bU pg aH v.ax=v.ax:=by
 rw[aD];simp only[aE.aD];kernel_rfl
def ok (v:Wh):Prop:=0<=v.k/\v.k<256/\-2^63<=v.h/\v.h<2^63/\v.v.ok/\v.vs.length<2^63/\(∀x∈v.vs,x.ok)/\-2^63<=v.n/\v.n<2^63/\-2^63<=v.lo/\v.lo<2^63/\-2^63<=v.of/\v.of<2^63/\-2^63<=v.km/\v.km<2^63/\0<=v.set/\v.set<256/\v.co.length<2^63/\(∀x∈v.co,x.ok)/\v.ns.length<2^63/\(∀x∈v.ns,x.ok)
end Wh
structure En where
 r:Int
 w:Wh
 deriving Inhabited
namespace En
def ax (v:En):D:= .r [.z v.r,v.w.ax]
def aD (v:En):v.ax= .r [.z v.r,v.w.ax]:=rfl
@[simp] def BC (v:En):D.int (D.aa v.ax 0)=v.r:=by rw[aD];rfl
@[simp] def Ug (v:En):D.aa v.ax 1=v.w.ax:=by rw[aD];rfl
@[simp] def re (v:En):bU pg bF v.ax=v.ax:=by
 rw[aD];simp only[aE.aD,Wh.aD];kernel_rfl
def ok (v:En):Prop:=-2^63<=v.r/\v.r<2^63/\v.w.ok
end En
structure Wl where
 pa:List Int
 cu:List Int
 th:List En
 la:Int
 ma:List Int
 deriving Inhabited
namespace Wl
def ax (v:Wl):D:= .r [.r (aw v.pa),.r (aw v.cu),.r (v.th.map En.ax),.z v.la,.r (aw v.ma)]
def aD (v:Wl):v.ax= .r [.r (aw v.pa),.r (aw v.cu),.r (v.th.map En.ax),.z v.la,.r (aw v.ma)]:=rfl
@[simp] def nf (v:Wl):D.ae (D.aa v.ax 0)=aw v.pa:=by rw[aD];rfl
@[simp] def Fj (v:Wl):D.ae (D.aa v.ax 1)=aw v.cu:=by rw[aD];rfl
@[simp] def kQ (v:Wl):D.ae (D.aa v.ax 2)=v.th.map En.ax:=by rw[aD];rfl
@[simp] def CD (v:Wl):D.int (D.aa v.ax 3)=v.la:=by rw[aD];rfl
@[simp] def vi (v:Wl):D.ae (D.aa v.ax 4)=aw v.ma:=by rw[aD];rfl
@[simp] def re (v:Wl):bU pg bu v.ax=v.ax:=by rw[aD];kernel_rfl
def ok (v:Wl):Prop:=v.pa.length<2^63/\(∀x∈v.pa,-2^63<=x/\x<2^63)/\v.cu.length<2^63/\(∀x∈v.cu,-2^63<=x/\x<2^63)/\v.th.length<2^63/\(∀x∈v.th,x.ok)/\-2^63<=v.la/\v.la<2^63/\v.ma.length<2^63/\(∀x∈v.ma,-2^63<=x/\x<2^63)
end Wl
structure Su where
 si:Int
 co:List St
 ns:List ga
 se:List Int
 deriving Inhabited
namespace Su
def ax (v:Su):D:= .r [.z v.si,.r (v.co.map St.ax),.r (v.ns.map ga.ax),.r (aw v.se)]
def aD (v:Su):v.ax= .r [.z v.si,.r (v.co.map St.ax),.r (v.ns.map ga.ax),.r (aw v.se)]:=rfl
@[simp] def X8 (v:Su):D.int (D.aa v.ax 0)=v.si:=by rw[aD];rfl
@[simp] def iI (v:Su):D.ae (D.aa v.ax 1)=v.co.map St.ax:=by rw[aD];rfl
@[simp] def fv (v:Su):D.ae (D.aa v.ax 2)=v.ns.map ga.ax:=by rw[aD];rfl
@[simp] def HZ (v:Su):D.ae (D.aa v.ax 3)=aw v.se:=by rw[aD];rfl
@[simp] def re (v:Su):bU pg br v.ax=v.ax:=by rw[aD];kernel_rfl
def ok (v:Su):Prop:=-2^63<=v.si/\v.si<2^63/\v.co.length<2^63/\(∀x∈v.co,x.ok)/\v.ns.length<2^63/\(∀x∈v.ns,x.ok)/\v.se.length<2^63/\(∀x∈v.se,-2^63<=x/\x<2^63)
end Su
end Go.Proofs
end
