import Derived.Test.YtemiekpfokoplaaGreatProg
import Derived.KernelRfl
import Derived.Test.YtemiekpfokoplaaGreatM8
set_option linter.all false
noncomputable section
open Go.IntKind renaming wrap→wp
namespace Go.PB
open Go
abbrev RT.gd (c:Bool)(t:RT):RT:= .ite c t .bq
end Go.PB
namespace Go.Proofs
open Go Go.PB
abbrev eK:Nat:=3
abbrev dg:Nat:=5
abbrev ld:Nat:=6
abbrev pO:Nat:=7
abbrev tw:Nat:=9
abbrev ey:Nat:=10
abbrev mH:Nat:=12
abbrev xv:Nat:=13
abbrev qD:Nat:=14
abbrev ie:Nat:=17
abbrev jl:Nat:=20
abbrev eI:Nat:=21
abbrev cO:Nat:=22
abbrev dP:Nat:=24
abbrev dH:Nat:=25
abbrev iT:Nat:=28
abbrev iF:Nat:=29
abbrev DQ:Nat:=30
abbrev kL:Nat:=31
abbrev eO:Nat:=34
abbrev ud:Nat:=35
abbrev pR:Nat:=36
abbrev cF:Nat:=37
abbrev jM:Nat:=38
abbrev eW:Nat:=39
abbrev eL:Nat:=40
abbrev dN:Nat:=41
abbrev bM:Nat:=45
abbrev de:Nat:=46
abbrev kx:Nat:=48
abbrev iS:Nat:=49
abbrev eF:Nat:=50
abbrev wG:Nat:=51
abbrev ca:Nat:=54
abbrev dF:Nat:=55
abbrev zW:Nat:=56
abbrev dq:Nat:=57
abbrev aw:Nat:=58
abbrev Bx:Nat:=59
abbrev dh:Nat:=60
abbrev fE:Nat:=61
abbrev dC:Nat:=62
abbrev qB:Nat:=63
abbrev di:Nat:=64
abbrev cN:Nat:=65
abbrev fD:Nat:=66
abbrev dZ:Nat:=67
abbrev qz:Nat:=68
abbrev rY:Nat:=69
abbrev dJ:Nat:=70
abbrev fq:Nat:=73
abbrev wE:Nat:=74
abbrev dQ:Nat:=75
abbrev bU:Nat:=76
abbrev eM:Nat:=78
abbrev kK:Nat:=79
abbrev pM:Nat:=83
abbrev ta:Nat:=84
abbrev cP:Nat:=85
abbrev kY:Nat:=86
abbrev tx:Nat:=87
abbrev iH:Nat:=88
abbrev iW:Nat:=89
abbrev s9:Nat:=90
abbrev gD:Nat:=91
abbrev rX:Nat:=92
abbrev eG:Nat:=93
abbrev gp:Nat:=94
abbrev fp:Nat:=95
abbrev cm:Nat:=96
abbrev gK:Nat:=97
abbrev kM:Nat:=98
abbrev By:Nat:=99
abbrev Bz:Nat:=100
abbrev E8:Nat:=101
abbrev iU:Nat:=102
abbrev dz:Nat:=103
abbrev mI:Nat:=104
abbrev E9:Nat:=105
abbrev pP:Nat:=106
abbrev pK:Nat:=107
abbrev cA:Nat:=109
abbrev dO:Nat:=110
abbrev cY:Nat:=111
abbrev wD:Nat:=128
abbrev kW:Nat:=130
abbrev nt:Nat:=131
abbrev eY:Nat:=132
abbrev cd:Nat:=133
abbrev BA:Nat:=156
abbrev r6:Nat:=157
abbrev yT:Nat:=158
abbrev eN:Nat:=159
abbrev yd:Nat:=160
abbrev iI:Nat:=161
abbrev qC:Nat:=162
abbrev yS:Nat:=163
abbrev wH:Nat:=164
abbrev mK:Nat:=165
abbrev r7:Nat:=166
abbrev Bw:Nat:=167
abbrev gg:Nat:=168
abbrev oe:Nat:=169
abbrev lg:Nat:=171
abbrev gq:Nat:=172
abbrev iG:Nat:=173
abbrev ky:Nat:=174
abbrev pQ:Nat:=175
abbrev hT:Nat:=176
abbrev kX:Nat:=177
abbrev ll:Nat:=178
abbrev jn:Nat:=179
abbrev lj:Nat:=180
abbrev gJ:Nat:=181
abbrev rZ:Nat:=182
abbrev bz:Nat:=183
abbrev kZ:Nat:=184
abbrev kN:Nat:=185
abbrev zX:Nat:=186
abbrev oQ:Nat:=187
abbrev Fc:Nat:=188
abbrev dE:Nat:=190
abbrev cT:Nat:=196
abbrev vf:Nat:=200
abbrev gB:Nat:=201
abbrev fN:Nat:=202
abbrev eE:Nat:=203
abbrev yW:Nat:=204
abbrev tA:Nat:=209
abbrev Fe:Nat:=210
abbrev oR:Nat:=211
abbrev mM:Nat:=212
abbrev cz:Nat:=213
abbrev mL:Nat:=214
abbrev tc:Nat:=215
abbrev jK:Nat:=217
abbrev jL:Nat:=218
abbrev Ff:Nat:=220
abbrev jN:Nat:=221
abbrev ln:Nat:=222
abbrev dK:Nat:=223
abbrev ez:Nat:=224
abbrev wF:Nat:=225
abbrev yU:Nat:=226
abbrev tv:Nat:=228
abbrev gA:Nat:=246
abbrev tz:Nat:=247
abbrev lq:Nat:=248
abbrev fF:Nat:=252
abbrev fL:Nat:=253
abbrev yX:Nat:=254
abbrev aW:Nat:=255
abbrev nu:Nat:=256
abbrev cv:Nat:=257
abbrev iV:Nat:=259
abbrev te:Nat:=260
abbrev Fa:Nat:=261
abbrev fM:Nat:=262
abbrev mJ:Nat:=272
abbrev dD:Nat:=276
abbrev cW:Nat:=277
abbrev bH:Nat:=279
abbrev tf:Nat:=281
abbrev eJ:Nat:=282
abbrev tg:Nat:=283
abbrev E7:Nat:=284
abbrev cJ:Nat:=285
abbrev yV:Nat:=286
abbrev tj:Nat:=287
abbrev tm:Nat:=288
abbrev tn:Nat:=289
abbrev tp:Nat:=290
abbrev pN:Nat:=291
abbrev tq:Nat:=292
abbrev gC:Nat:=293
abbrev mG:Nat:=294
abbrev fg:Nat:=295
abbrev tu:Nat:=296
abbrev cC:Nat:=297
abbrev dT:Nat:=298
noncomputable abbrev pg:=Tryz.prog
abbrev UJ:Nat:=2
abbrev ah:Nat:=3
abbrev aj:Nat:=4
abbrev mn:Nat:=5
abbrev bG:Nat:=9
abbrev jU:Nat:=22
abbrev oy:Nat:=23
abbrev CS:Nat:=24
abbrev bh:Nat:=25
abbrev bF:Nat:=27
abbrev cB:Nat:=28
abbrev tV:Nat:=29
abbrev bN:Nat:=30
abbrev aX:Nat:=34
abbrev cq:Nat:=38
abbrev Rr:Nat:=40
abbrev q9:Nat:=54
abbrev bY:Nat:=61
abbrev bB:Nat:=62
abbrev jT:Nat:=63
abbrev dS:Nat:=64
abbrev bZ:Nat:=66
abbrev wT:Nat:=73
abbrev q8:Nat:=84
abbrev Ea:Nat:=85
abbrev eQ:Nat:=86
abbrev ao:Nat:=88
abbrev nP:Nat:=89
abbrev aO:Nat:=91
abbrev X0:Nat:=95
abbrev aU:Nat:=99
abbrev tOp:Nat:=101
abbrev G1:Nat:=102
abbrev Ec:Nat:=103
abbrev aE:Nat:=105
abbrev je:Nat:=106
abbrev aT:Nat:=108
abbrev bQ:Nat:=116
abbrev br:Nat:=120
abbrev fT:Nat:=136
abbrev bd:Nat:=141
abbrev bp:Nat:=158
abbrev aM:Nat:=197
abbrev AS:Nat:=213
abbrev gM:Nat:=291
def Hq:pg.follows .mixedOrders=true:=by kernel_rfl
structure WS where
 pa:List D
 cu:List D
 th:List (D×D)
 st:List Nat
 ck:Nat
 fa:List (D×D)
 sf:List Nat
 cf:Nat
 la:Int
 ma:List D
@[reducible] def Wm (W:WS):List (Nat×ax):=
 [(0,.cells [.bC bY W.pa,.aV 3 W.cu.length true,.map 1,.map 2,.int .i64 W.la,.aV 4 W.ma.length true] aU false),(1,.bo bh (.cp 1 aO) W.th W.st W.ck),(2,.bo aM (.data bh) W.fa W.sf W.cf),(3,.an aj W.cu true),(4,.an ah W.ma true)]
@[reducible] def Vj (W:WS):List (Nat×ax):=
 [(0,.cells [.aG 1 0] cq false),(1,.cells [.bC bY W.pa,.aV 4 W.cu.length true,.map 2,.map 3,.int .i64 W.la,.aV 5 W.ma.length true] aU false),(2,.bo bh (.cp 2 aO) W.th W.st W.ck),(3,.bo aM (.data bh) W.fa W.sf W.cf),(4,.an aj W.cu true),(5,.an ah W.ma true)]
structure RS where
 pa:List D
 cu:List D
 th:List D
 la:Int
 ma:List D
@[reducible] def Rm (R:RS):List (Nat×ax):=
 [(0,.cells [.aV 1 R.pa.length true,.aV 2 R.cu.length true,.aV 3 R.th.length true,.int .i64 R.la,.aV 4 R.ma.length true] bp false),(1,.an ah R.pa true),(2,.an aj R.cu true),(3,.an bQ R.th true),(4,.an ah R.ma true)]
def Wm3 (M:List (Nat×ax))(l:List D):List (Nat×ax):=match M with
 | [(0,.cells [p,.aV 3 n t,m1,m2,la,.aV 4 k u] ty s),(1,a),(2,b),(3,c),(4,e)]=>[(0,.cells [p,.aV 4 n t,m1,m2,la,.aV 5 k u] ty s),(1,a),(2,b),(3,.an bh l true),(4,c),(5,e)]
 |_=>[]
@[reducible] def Lm (l:List D):List (Nat×ax):=[(0,.cells [.aV 1 l.length true] br false),(1,.an mn l true)]
def HX (d:D):WS:=⟨D.aa (D.ae d 0),D.aa (D.ae d 1),gu (D.ae d 2),hG (D.ae d 3),hC (D.ae d 4),gu (D.ae d 5),hG (D.ae d 6),hC (D.ae d 7),D.int (D.ae d 8),D.aa (D.ae d 9)⟩
def Wcp (M:List (Nat×ax))(V:WS):List (Nat×ax):=match M with
 | [(0,.cells [p,.aV 3 n t,m1,m2,la,.aV 4 k u] ty s),(1,a),(2,b),(3,c),(4,e)]=>[(0,.cells [p,.aV 4 n t,m1,m2,la,.aV 5 k u] ty s),(1,a),(2,b),(3,.cells [.bC bY V.pa,.aV 8 V.cu.length true,.map 6,.map 7,.int .i64 V.la,.aV 9 V.ma.length true] aU false),(4,c),(5,e),(6,.bo bh (.cp 16 aO) V.th V.st V.ck),(7,.bo aM (.data bh) V.fa V.sf V.cf),(8,.an aj V.cu true),(9,.an ah V.ma true)]
 |_=>[]
def Pn (M:List (Nat×ax))(V U:WS)(l k:List D):List (Nat×ax):=match M with
 | [(0,.cells [p,.aV 3 n t,m1,m2,la,.aV 4 x u] ty s),(1,a),(2,b),(3,c),(4,e)]=>[(0,.cells [p,.aV 4 n t,m1,m2,la,.aV 5 x u] ty s),(1,a),(2,b),(3,.cells [.aG 6 0,.aG 7 0,.bC bZ l,.bC bZ k,.bJ] wT false),(4,c),(5,e),(6,.cells [.bC bY V.pa,.aV 10 V.cu.length true,.map 8,.map 9,.int .i64 V.la,.aV 11 V.ma.length true] aU false),(7,.cells [.bC bY U.pa,.aV 14 U.cu.length true,.map 12,.map 13,.int .i64 U.la,.aV 15 U.ma.length true] aU false),(8,.bo bh (.cp 24 aO) V.th V.st V.ck),(9,.bo aM (.data bh) V.fa V.sf V.cf),(10,.an aj V.cu true),(11,.an ah V.ma true),(12,.bo bh (.cp 28 aO) U.th U.st U.ck),(13,.bo aM (.data bh) U.fa U.sf U.cf),(14,.an aj U.cu true),(15,.an ah U.ma true)]
 |_=>[]
@[reducible] def Pm (q:Nat)(V U:WS)(l k:List D):List (Nat×ax):=[(0,.cells [.aG 1 0,.aG 2 0,.bC bZ l,.bC bZ k,.bJ] wT false),(1,.cells [.bC bY V.pa,.aV 5 V.cu.length true,.map 3,.map 4,.int .i64 V.la,.aV 6 V.ma.length true] aU false),(2,.cells [.bC bY U.pa,.aV 9 U.cu.length true,.map 7,.map 8,.int .i64 U.la,.aV 10 U.ma.length true] aU false),(3,.bo bh (.cp 3 aO) V.th V.st V.ck),(4,.bo aM (.data bh) V.fa V.sf V.cf),(5,.an aj V.cu true),(6,.an ah V.ma true),(7,.bo bh (.cp q aO) U.th U.st U.ck),(8,.bo aM (.data bh) U.fa U.sf U.cf),(9,.an aj U.cu true),(10,.an ah U.ma true)]
@[reducible] def Wmf (q:Nat)(W:WS):List (Nat×ax):=[(0,.cells [.bC bY W.pa,.aV 3 W.cu.length true,.map 1,.map 2,.int .i64 W.la,.aV 4 W.ma.length true] aU false),(1,.bo bh (.cp q aO) W.th W.st W.ck),(2,.bo aM (.data bh) W.fa W.sf W.cf),(3,.an aj W.cu true),(4,.an ah W.ma true)]
def iO:RH:=fun _ _ d=> .ret (.bool (D.bool (D.ae d 0)),[(0,.cells [.int .i64 (D.int (D.ae d 1)),.int .i64 (D.int (D.ae d 2))] gM false)])
@[reducible] def uJ (a0:D)(p:Int)(q:Int):List BV:=[.aG 0 0,.agg (aK pg ao a0)]
@[reducible] def uL (a0:D)(p:Int)(q:Int):List (Nat×ax):=[(0,.cells [.int .i64 p,.int .i64 q] gM false)]
def eB:RH:=fun _ _ d=> .ret (.int .i64 (D.int d),[])
@[reducible] def lJ (l:List D):List BV:=[.bC ao l,.func (.func yX) [] []]
def my:RH:=fun _ _ d=> .ret (.bool (D.bool d),[])
@[reducible] def sO (l:List D):List BV:=[.bC ao l,.func (.func yX) [] []]
def sX:RH:=fun _ _ d=> .ret (.bool true,[(0,.cells [.aV 1 (D.aa d).length true] dS false),(1,.an bh (D.aa d) true)])
@[reducible] def Es (a0:D)(pl:List D)(zi:List D)(c:Nat):List BV:=[.agg (aK pg ao a0),.bC ah pl,.func (.func zX) [] [.aG 0 0]]
@[reducible] def EC (a0:D)(pl:List D)(zi:List D)(c:Nat):List (Nat×ax):=[(0,.cells [.aV 1 c true] dS false),(1,.an bh zi true)]
def uM:RH:=fun _ _ d=> .ret (.aV 0 (D.aa d).length true,[(0,.an aE (D.aa d) true)])
@[reducible] def Ei (l:List D):List BV:=[.bC aE l]
def uN:RH:=fun _ _ d=> .ret (.aV 0 (D.aa d).length true,[(0,.an aT (D.aa d) true)])
@[reducible] def El (l:List D):List BV:=[.bC aT l]
def x6:RH:=fun _ _ d=> .ret (.aV 0 (D.aa d).length true,[(0,.an ao (D.aa d) true)])
@[reducible] def C6 (l:List D):List BV:=[.bC ao l]
def zA:RH:=fun _ _ d=> .ret (.aV 0 (D.aa d).length true,[(0,.an fT (D.aa d) true)])
@[reducible] def Ej (l:List D):List BV:=[.bC fT l]
def qh:RH:=fun _ _ d=> .ret (.aV 0 (D.aa d).length true,[(0,.an bG (D.aa d) true)])
@[reducible] def A3 (l:List D):List BV:=[.bC bG l]
def A9:RH:=fun _ _ d=> .ret (.aV 0 (D.aa d).length true,[(0,.an bh (D.aa d) true)])
@[reducible] def G5 (l:List D):List BV:=[.bC bh l]
def mw:RH:=fun a m d=>match a with| [.aV _ _ _]=> .ret (.aV 1 (D.aa d).length true,m++[(1,.an ah (D.aa d) true)])|_=> .ret (.aV 0 (D.aa d).length true,[(0,.an ah (D.aa d) true)])
@[reducible] def G6 (l:List D):List BV:=[.bC ah l]
def qg:RH:=fun _ _ d=> .ret (.aV 0 (D.aa d).length true,[(0,.an bY (D.aa d) true)])
@[reducible] def Ek (l:List D):List BV:=[.bC bY l]
def Bd:RH:=fun _ _ d=> .ret (.aV 0 (D.aa d).length true,[(0,.an bh (D.aa d) true)])
@[reducible] def Nf (a0:D):List BV:=[.agg (aK pg ao a0)]
def wt:RH:=fun _ _ d=> .ret (.aV 0 (D.aa d).length true,[(0,.an bh (D.aa d) true)])
@[reducible] def yu (a0:D):List BV:=[.agg (aK pg aO a0)]
def Bb:RH:=fun _ M d=> .ret (.bool (D.bool d),M)
@[reducible] def U3 (W:WS)(r:Int):List BV:=[.aG 0 0,.int .i64 r]
def IT:RH:=fun _ M d=> .ret (.int .u8 (D.int d),M)
@[reducible] def M9 (W:WS)(r:Int):List BV:=[.aG 0 0,.int .i64 r]
def yy:RH:=fun _ M d=> .ret (.int .u8 (D.int d),M)
@[reducible] def Em (W:WS)(r:Int):List BV:=[.aG 0 0,.int .i64 r]
def rL:RH:=fun _ M d=> .ret (.bool (D.bool d),M)
@[reducible] def vG (W:WS)(r:Int)(k:Int)(o:Int):List BV:=[.aG 0 0,.int .i64 r,.int .u8 k,.int .i64 o]
def eX:RH:=fun _ M d=> .ret (.int .i64 (D.int d),M)
@[reducible] def oA (W:WS)(l:List D):List BV:=[.bC bh l,.func (.func tc) [] [.aG 0 0]]
def fi:RH:=fun _ M d=> .ret (.bool (D.bool d),M)
@[reducible] def wg (W:WS)(l:List D):List BV:=[.bC bh l,.func (.func tc) [] [.aG 0 0]]
def Gk:RH:=fun _ M d=> .ret (.bool (D.bool d),M)
@[reducible] def KP (W:WS)(y:D):List BV:=[.aG 0 0,.agg (aK pg aO y)]
def EF:RH:=fun _ M d=> .ret (.bool (D.bool d),M)
@[reducible] def IN (W:WS)(r:Int)(y:D):List BV:=[.aG 0 0,.int .i64 r,.agg (aK pg aO y)]
def rM:RH:=fun _ M d=> .ret (.int .i64 (D.int d),M)
@[reducible] def vH (W:WS):List BV:=[.aG 0 0]
def nc:RH:=fun _ M d=> .ret (.int .i64 (D.int d),M)
@[reducible] def KO (W:WS):List BV:=[.aG 0 0]
def IU:RH:=fun _ M d=> .ret (.bool (D.bool d),M)
@[reducible] def Na (W:WS)(s:Int):List BV:=[.aG 0 0,.int .i64 s]
def zE:RH:=fun ags _ d=>match ags with| [.bC _ l]=> .ite (D.bool d) (.ret (.tuple [.aG 0 0,.int .i64 0],[(0,.cells [.bC bY l,.aV 1 (l.length+1) true,.map 2,.map 3,.int .i64 0,.aV 4 (l.length+1) true] aU false),(1,.an aj (List.replicate (l.length+1) (.b false)) true),(2,.bo bh (.cp 7 aO) [] [] 0),(3,.bo aM (.data bh) [] [] 0),(4,.an ah (List.replicate (l.length+1) (.z 0)) true)])) (.ret (.tuple [.gT,.int .i64 71],[]))|_=> .bq
@[reducible] def Et (l:List D):List BV:=[.bC bY l]
def w6:RH:=fun _ M d=> .ret (.int .i64 (D.int (D.ae d 0)),M.set 3 (3,.an aj (D.aa (D.ae d 1)) true))
@[reducible] def A6 (W:WS)(n:Int):List BV:=[.aG 0 0,.int .i64 n]
def b7:RH:=fun _ M d=> .ret (.bool (D.bool (D.ae d 0)),M.set 2 (2,.bo aM (.data bh) (gu (D.ae d 1)) (hG (D.ae d 2)) (hC (D.ae d 3))))
@[reducible] def cj (W:WS):List BV:=[.aG 0 0]
def qj:RH:=fun _ M d=> .ret (.bool (D.bool d),M)
@[reducible] def sP (W:WS)(y:D):List BV:=[.aG 0 0,.agg (aK pg aO y)]
def vK:RH:=fun _ _ d=> .ret (.bool (D.bool (D.ae d 0)),[(0,.cells [.int .i64 (D.int (D.ae d 1))] ah false)])
@[reducible] def Ca (l:List D)(m:Int):List BV:=[.bC aT l,.aG 0 0]
@[reducible] def Cc (l:List D)(m:Int):List (Nat×ax):=[(0,.cells [.int .i64 m] ah false)]
def zF:RH:=fun _ _ d=> .ret (.bool (D.bool (D.ae d 0)),[(0,.cells [.int .i64 (D.int (D.ae d 1))] ah false)])
@[reducible] def IP (y:D)(m:Int)(k:Int):List BV:=[.agg (aK pg aE y),.aG 0 0,.int .i64 k]
@[reducible] def IQ (y:D)(m:Int)(k:Int):List (Nat×ax):=[(0,.cells [.int .i64 m] ah false)]
def gO:RH:=fun _ M d=> .ret (.int .i64 (D.int (D.ae d 0)),M.set 2 (2,.cells [.int .i64 (D.int (D.ae d 1))] ah false))
@[reducible] def rE (l:List D)(m:Int)(k:Int):List BV:=[.bC aE l,.func (.func nu) [] [.aG 0 0,.aG 1 0]]
@[reducible] def rH (l:List D)(m:Int)(k:Int):List (Nat×ax):=[(0,.cells [.aG 2 0] AS false),(1,.cells [.int .i64 k] ah false),(2,.cells [.int .i64 m] ah false)]
def eS:RH:=fun _ M d=> .ret (.bool (D.bool (D.ae d 0)),M.set 2 (2,.cells [.int .i64 (D.int (D.ae d 1))] ah false))
@[reducible] def um (l:List D)(m:Int)(k:Int):List BV:=[.bC aE l,.func (.func nu) [] [.aG 0 0,.aG 1 0]]
@[reducible] def uw (l:List D)(m:Int)(k:Int):List (Nat×ax):=[(0,.cells [.aG 2 0] AS false),(1,.cells [.int .i64 k] ah false),(2,.cells [.int .i64 m] ah false)]
def wZ:RH:=fun _ M d=> .ret (.tuple [.agg (aK pg aO (D.ae d 0)),.bool (D.bool (D.ae d 1))],M)
@[reducible] def Iq (R:RS)(r:Int):List BV:=[.aG 0 0,.int .i64 r]
def Cd:RH:=fun _ M d=> .ret (.int .i64 (D.int d),M)
@[reducible] def KN (R:RS)(r:Int):List BV:=[.aG 0 0,.int .i64 r]
def vI:RH:=fun _ M d=> .ret (.int .u8 (D.int d),M)
@[reducible] def Gd (R:RS)(r:Int):List BV:=[.aG 0 0,.int .i64 r]
def rK:RH:=fun _ M d=> .ret (.bool (D.bool d),M)
@[reducible] def wj (R:RS)(r:Int)(k:Int)(o:Int)(b:Bool):List BV:=[.aG 0 0,.int .i64 r,.int .i64 k,.int .i64 o,.bool b]
def gV:RH:=fun _ M d=> .ret (.int .i64 (D.int d),M)
@[reducible] def jf (R:RS)(r:Int)(y:D):List BV:=[.aG 0 0,.int .i64 r,.agg (aK pg aO y)]
def mz:RH:=fun _ M d=> .ret (.int .i64 (D.int d),M)
@[reducible] def pf (R:RS):List BV:=[.aG 0 0]
def yB:RH:=fun ags _ d=>match ags with| [.bC _ l]=> .ite (D.bool d) (.ret (.tuple [.aG 0 0,.int .i64 0],[(0,.cells [.aV 1 l.length true,.aV 2 l.length true,.aV 3 0 true,.int .i64 0,.aV 4 (l.length+1) true] bp false),(1,.an ah l true),(2,.an aj (List.replicate l.length (.b false)) true),(3,.an bQ [] true),(4,.an ah (List.replicate (l.length+1) (.z 0)) true)])) (.ret (.tuple [.gT,.int .i64 71],[]))|_=> .bq
@[reducible] def A8 (l:List D):List BV:=[.bC bY l]
def yx:RH:=fun _ M d=>match M with| [(_,.cells [.aV _ a _,.aV _ b _,.aV _ c _,l,.aV _ e _] t s),(_,r1),(_,r2),(_,r3),(_,r4)]=> .ret (.aV 1 (D.aa d).length true,[(0,.cells [.aV 2 a true,.aV 3 b true,.aV 4 c true,l,.aV 5 e true] t s),(1,.an bh (D.aa d) true),(2,r1),(3,r2),(4,r3),(5,r4)])|_=> .bq
@[reducible] def A4 (R:RS)(r:Int):List BV:=[.aG 0 0,.int .i64 r]
def yz:RH:=fun _ M d=> .ret (.tuple [],M.set 2 (2,.bo aM (.data bh) (gu (D.ae d 0)) (hG (D.ae d 1)) (hC (D.ae d 2))))
@[reducible] def Ge (W:WS)(r:Int):List BV:=[.aG 0 0,.int .i64 r]
def iP:RH:=fun _ _ d=> .ite (D.bool (D.ae d 0)) (.ret (.tuple [.aG 0 0,.int .i64 0],[(0,.cells [.bC bY (D.aa (D.ae d 1)),.aV 3 (D.aa (D.ae d 2)).length true,.map 1,.map 2,.int .i64 (D.int (D.ae d 3)),.aV 4 (D.aa (D.ae d 4)).length true] aU false),(1,.bo bh (.cp 6 aO) (gu (D.ae d 5)) (hG (D.ae d 6)) (hC (D.ae d 7))),(2,.bo aM (.data bh) (gu (D.ae d 8)) (hG (D.ae d 9)) (hC (D.ae d 10))),(3,.an aj (D.aa (D.ae d 2)) true),(4,.an ah (D.aa (D.ae d 4)) true)])) (.ret (.tuple [.gT,.int .i64 71],[]))
@[reducible] def jA (y:D):List BV:=[.agg (aK pg bF y)]
def dG:RH:=fun _ _ d=> .ite (D.bool (D.ae d 0)) (.ret (.tuple [.aG 0 0,.int .i64 0],Rm ⟨D.aa (D.ae d 1),D.aa (D.ae d 2),D.aa (D.ae d 3),D.int (D.ae d 4),D.aa (D.ae d 5)⟩)) (.ret (.tuple [.gT,.int .i64 71],[]))
@[reducible] def dV (y:D):List BV:=[.agg (aK pg bF y)]
def kg:RH:=fun _ _ d=> .ret (.int .i64 (D.int d),[])
@[reducible] def pe (l:List D):List BV:=[.bC bG l,.func (.func tu) [] []]
def lz:RH:=fun _ _ d=> .ret (.bool (D.bool d),[])
@[reducible] def rp (l:List D):List BV:=[.bC bG l,.func (.func tu) [] []]
def mA:RH:=fun _ _ d=> .ret (.bool (D.bool (D.ae d 0)),[(0,.cells [.int .i64 (D.int (D.ae d 1))] ah false)])
@[reducible] def sQ (y:D)(m:Int)(k:Int):List BV:=[.agg (aK pg aE y),.aG 0 0,.int .i64 k]
@[reducible] def sV (y:D)(m:Int)(k:Int):List (Nat×ax):=[(0,.cells [.int .i64 m] ah false)]
abbrev gv:Nat:=cW
@[reducible] def nT:RH:=gO
@[reducible] def nR (l:List D)(m:Int)(k:Int):List BV:=[.bC aE l,.func (.func cC) [] [.aG 0 0,.aG 1 0]]
@[reducible] def nS (l:List D)(m:Int)(k:Int):List (Nat×ax):=[(0,.cells [.aG 2 0] AS false),(1,.cells [.int .i64 k] ah false),(2,.cells [.int .i64 m] ah false)]
abbrev qA:Nat:=aW
@[reducible] def zC:RH:=eS
@[reducible] def p6 (l:List D)(m:Int)(k:Int):List BV:=[.bC aE l,.func (.func cC) [] [.aG 0 0,.aG 1 0]]
@[reducible] def qc (l:List D)(m:Int)(k:Int):List (Nat×ax):=[(0,.cells [.aG 2 0] AS false),(1,.cells [.int .i64 k] ah false),(2,.cells [.int .i64 m] ah false)]
def nZ:RH:=fun _ _ d=> .ret (.bool (D.bool (D.ae d 0)),[(0,.cells [.int .i64 (D.int (D.ae d 1))] ah false),(1,.cells [.int .i64 (D.int (D.ae d 2))] ah false),(2,.cells [.int .i64 (D.int (D.ae d 3))] aX false)])
@[reducible] def sR (l:List D)(dp:Int)(n:Int)(ni:Int)(er:Int):List BV:=[.bC aT l,.int .i64 dp,.aG 0 0,.func (.func te) [] [.aG 1 0,.aG 2 0]]
@[reducible] def sW (l:List D)(dp:Int)(n:Int)(ni:Int)(er:Int):List (Nat×ax):=[(0,.cells [.int .i64 n] ah false),(1,.cells [.int .i64 ni] ah false),(2,.cells [.int .i64 er] aX false)]
def zD:RH:=fun _ _ d=> .ret (.tuple [],[(0,.an bh (D.aa d) true)])
@[reducible] def zo (l:List D):List BV:=[.aV 0 l.length true]
@[reducible] def wq (l:List D):List (Nat×ax):=[(0,.an bh l true)]
def yA:RH:=fun _ M d=> .ret (.aV 3 (D.aa d).length true,Wm3 M (D.aa d))
@[reducible] def A7 (W:WS):List BV:=[.aG 0 0]
def IW:RH:=fun _ M d=> .ret (.bool (D.bool d),M)
@[reducible] def Nc (W:WS):List BV:=[.aG 0 0]
def IX:RH:=fun _ M d=> .ret (.bool (D.bool d),M)
@[reducible] def Nd (W:WS)(s:Int):List BV:=[.aG 0 0,.int .i64 s]
def iC:RH:=fun _ M d=> .ret (.int .i64 (D.int d),M)
@[reducible] def jz (W:WS)(y:D):List BV:=[.aG 0 0,.agg (aK pg bZ y)]
def nY:RH:=fun _ M d=> .ret (.agg (aK pg bF d),M)
@[reducible] def yq (W:WS):List BV:=[.aG 0 0]
abbrev Bv:Nat:=dC
@[reducible] def Ba:RH:=mw
@[reducible] def we (l:List D):List BV:=[.aV 0 l.length true]
@[reducible] def wm (l:List D):List (Nat×ax):=[(0,.an ah l true)]
def yC:RH:=fun _ _ d=> .ret (.aV 0 (D.aa d).length true,[(0,.an bh (D.aa d) true)])
@[reducible] def B9 (a0:D):List BV:=[.agg (aK pg aO a0)]
def bV:RH:=fun _ _ d=> .ret (.tuple [],Lm (D.aa d))
@[reducible] def xT (l:List D)(n:Int):List BV:=[.aG 0 0,.int .i64 n]
@[reducible] def xW (l:List D)(n:Int):List (Nat×ax):=(Lm l)
def fC:RH:=fun _ _ d=> .ret (.tuple [],Lm (D.aa d))
@[reducible] def p9 (l:List D)(n:Int):List BV:=[.aG 0 0,.int .u64 n]
@[reducible] def qd (l:List D)(n:Int):List (Nat×ax):=(Lm l)
def gx:RH:=fun _ _ d=> .ret (.tuple [],Lm (D.aa d))
@[reducible] def zt (l:List D)(s:(List UInt8)):List BV:=[.aG 0 0,.bj s]
@[reducible] def zx (l:List D)(s:(List UInt8)):List (Nat×ax):=(Lm l)
def jh:RH:=fun _ _ d=> .ret (.tuple [],Lm (D.aa d))
@[reducible] def sj (l:List D)(y:D):List BV:=[.aG 0 0,.agg (aK pg ao y)]
@[reducible] def xY (l:List D)(y:D):List (Nat×ax):=(Lm l)
def qk:RH:=fun _ _ d=> .ret (.tuple [],Lm (D.aa d))
@[reducible] def zp (l:List D)(y:D):List BV:=[.aG 0 0,.agg (aK pg aE y)]
@[reducible] def Ey (l:List D)(y:D):List (Nat×ax):=(Lm l)
def uQ:RH:=fun _ _ d=> .ret (.tuple [],Lm (D.aa d))
@[reducible] def zr (l:List D)(y:D):List BV:=[.aG 0 0,.agg (aK pg aT y)]
@[reducible] def EA (l:List D)(y:D):List (Nat×ax):=(Lm l)
def uP:RH:=fun _ _ d=> .ret (.tuple [],Lm (D.aa d))
@[reducible] def zq (l:List D)(y:D):List BV:=[.aG 0 0,.agg (aK pg fT y)]
@[reducible] def Ez (l:List D)(y:D):List (Nat×ax):=(Lm l)
def od:RH:=fun _ _ d=> .ret (.tuple [],Lm (D.aa d))
@[reducible] def sh (l:List D)(y:D):List BV:=[.aG 0 0,.agg (aK pg bQ y)]
@[reducible] def xX (l:List D)(y:D):List (Nat×ax):=(Lm l)
def so:RH:=fun _ _ d=> .ret (.tuple [],Lm (D.aa d))
@[reducible] def C7 (l:List D)(y:D):List BV:=[.aG 0 0,.agg (aK pg bF y)]
@[reducible] def C8 (l:List D)(y:D):List (Nat×ax):=(Lm l)
def oF:RH:=fun _ _ d=> .ret (.tuple [],Lm (D.aa d))
@[reducible] def tY (l:List D)(y:D):List BV:=[.aG 0 0,.agg (aK pg bZ y)]
@[reducible] def Av (l:List D)(y:D):List (Nat×ax):=(Lm l)
def iN:RH:=fun _ _ d=> .ret (.tuple [],Lm (D.aa d))
@[reducible] def lM (l:List D)(ys:List D):List BV:=[.aG 0 0,.bC bY ys,.func (.func zW) [.aG 0 0] []]
@[reducible] def lW (l:List D)(ys:List D):List (Nat×ax):=(Lm l)
def jE:RH:=fun _ _ d=> .ret (.tuple [],Lm (D.aa d))
@[reducible] def mY (l:List D)(ys:List D):List BV:=[.aG 0 0,.bC ah ys,.func (.func aw) [.aG 0 0] []]
@[reducible] def nb (l:List D)(ys:List D):List (Nat×ax):=(Lm l)
def gW:RH:=fun _ _ d=> .ret (.tuple [],Lm (D.aa d))
@[reducible] def j9 (l:List D)(ys:List D):List BV:=[.aG 0 0,.bC bQ ys,.func (.func fE) [.aG 0 0] []]
@[reducible] def ke (l:List D)(ys:List D):List (Nat×ax):=(Lm l)
def dA:RH:=fun _ _ d=> .ret (.tuple [],Lm (D.aa d))
@[reducible] def lO (l:List D)(ys:List D):List BV:=[.aG 0 0,.bC aT ys,.func (.func de) [.aG 0 0] []]
@[reducible] def lX (l:List D)(ys:List D):List (Nat×ax):=(Lm l)
def iM:RH:=fun _ _ d=> .ret (.tuple [],Lm (D.aa d))
@[reducible] def lK (l:List D)(ys:List D):List BV:=[.aG 0 0,.bC aE ys,.func (.func dO) [.aG 0 0] []]
@[reducible] def lP (l:List D)(ys:List D):List (Nat×ax):=(Lm l)
def gr:RH:=fun _ _ d=> .ret (.tuple [],Lm (D.aa d))
@[reducible] def js (l:List D)(ys:List D):List BV:=[.aG 0 0,.bC bG ys,.func (.func cA) [.aG 0 0] []]
@[reducible] def jt (l:List D)(ys:List D):List (Nat×ax):=(Lm l)
def fV:RH:=fun _ _ d=> .ret (.tuple [],Lm (D.aa d))
@[reducible] def lL (l:List D)(ys:List D):List BV:=[.aG 0 0,.bC fT ys,.func (.func fD) [.aG 0 0] []]
@[reducible] def lQ (l:List D)(ys:List D):List (Nat×ax):=(Lm l)
def gX:RH:=fun _ _ d=> .ret (.tuple [],Lm (D.aa d))
@[reducible] def ka (l:List D)(ys:List D):List BV:=[.aG 0 0,.bC ao ys,.func (.func cd) [.aG 0 0] []]
@[reducible] def kf (l:List D)(ys:List D):List (Nat×ax):=(Lm l)
def jD:RH:=fun _ _ d=> .ret (.tuple [],Lm (D.aa d))
@[reducible] def mX (l:List D)(ys:List D):List BV:=[.aG 0 0,.bC bh ys,.func (.func Bx) [.aG 0 0] []]
@[reducible] def na (l:List D)(ys:List D):List (Nat×ax):=(Lm l)
def fH:RH:=fun _ _ d=> .ret (.tuple [],Lm (D.aa d))
@[reducible] def iK (l:List D)(ys:List D):List BV:=[.aG 0 0,.bC bZ ys,.func (.func dP) [.aG 0 0] []]
@[reducible] def iL (l:List D)(ys:List D):List (Nat×ax):=(Lm l)
def Be:RH:=fun _ _ d=> .ret (.aV 0 (D.aa d).length true,[(0,.an mn (D.aa d) true)])
@[reducible] def Er (l:List D)(n:Int)(wd:Int):List BV:=[.aV 0 l.length true,.int .u64 n,.int .i64 wd]
@[reducible] def EB (l:List D)(n:Int)(wd:Int):List (Nat×ax):=[(0,.an mn l true)]
def rN:RH:=fun _ _ d=> .ret (.aV 0 (D.aa d).length true,[(0,.an mn (D.aa d) true)])
@[reducible] def yr (l:List D)(y:D):List BV:=[.aV 0 l.length true,.agg (aK pg ao y)]
@[reducible] def yw (l:List D)(y:D):List (Nat×ax):=[(0,.an mn l true)]
abbrev hJ:Nat:=cv
@[reducible] def pk:RH:=eX
@[reducible] def j8 (l:List D):List BV:=[.bC bh l,.func (.func tz) [] []]
abbrev ru:Nat:=cz
@[reducible] def AT:RH:=fi
@[reducible] def rj (l:List D):List BV:=[.bC bh l,.func (.func tz) [] []]
def zB:RH:=fun a m d=>match a with| [.aV _ _ _]=> .ret (.aV 1 (D.aa d).length true,m++[(1,.an aj (D.aa d) true)])|_=> .ret (.aV 0 (D.aa d).length true,[(0,.an aj (D.aa d) true)])
abbrev AB:Nat:=qz
@[reducible] def Ay:RH:=zB
@[reducible] def tX (l:List D):List BV:=[.aV 0 l.length true]
@[reducible] def ua (l:List D):List (Nat×ax):=[(0,.an aj l true)]
def qi:RH:=fun _ M d=> .ret (.aG 3 0,Wcp M (HX d))
@[reducible] def A5 (W:WS):List BV:=[.aG 0 0]
def Cf:RH:=fun _ M d=> .ite (D.bool (D.ae d 0)) (.ret (.tuple [.aG 3 0,.int .i64 0],Pn M (HX (D.ae d 2)) (HX (D.ae d 3)) (D.aa (D.ae d 4)) (D.aa (D.ae d 5)))) (.ret (.tuple [.gT,.int .i64 (D.int (D.ae d 1))],M))
@[reducible] def Ep (W:WS)(ls:List D):List BV:=[.aG 0 0,.bC bZ ls]
def vJ:RH:=fun _ M d=>match M with| [a0,a1,a2,a3,a4,a5,a6,(_,.bo t (.cp _ e) m st c),a8,a9,a10]=> .ret (.tuple [.bj (D.bj (D.ae d 0)),.int .i64 (D.int (D.ae d 1))],[a0,a1,a2,a3,a4,a5,a6,(7,.bo t (.cp 18 e) m st c),a8,a9,a10])| []=> .ret (.tuple [.bj (D.bj (D.ae d 0)),.int .i64 (D.int (D.ae d 1))],[])|_=> .bq
@[reducible] def KR (V:WS)(U:WS)(l:List D)(k:List D):List BV:=[.aG 0 0]
@[reducible] def KS (V:WS)(U:WS)(l:List D)(k:List D):List (Nat×ax):=(Pm 7 V U l k)
def Ce:RH:=fun _ M d=> .ret (.tuple [.bj (D.bj (D.ae d 0)),.int .i64 (D.int (D.ae d 1))],M)
@[reducible] def KQ (W:WS):List BV:=[.aG 0 0]
def iB:RH:=fun _ _ d=> .ret (.int .i64 (D.int (D.ae d 0)),[(0,.cells [.bj (D.bj (D.ae d 1))] bd false)])
@[reducible] def As (s:(List UInt8)):List BV:=[.aG 0 0]
@[reducible] def Aw (s:(List UInt8)):List (Nat×ax):=[(0,.cells [.bj s] bd false)]
def HW:RH:=fun _ _ d=> .ret (.agg (aK pg bQ (D.ae d 0)),[(0,.cells [.bj (D.bj (D.ae d 1))] bd false)])
def ng:RH:=fun _ _ d=> .ret (.aV 1 (D.aa (D.ae d 0)).length true,[(0,.cells [.bj (D.bj (D.ae d 1))] bd false),(1,.an bY (D.aa (D.ae d 0)) true)])
@[reducible] def rF (s:(List UInt8)):List BV:=[.aG 0 0,.int .i64 4,.func (.func wE) [.aG 0 0] []]
@[reducible] def rI (s:(List UInt8)):List (Nat×ax):=[(0,.cells [.bj s] bd false)]
def kH:RH:=fun _ _ d=> .ret (.aV 1 (D.aa (D.ae d 0)).length true,[(0,.cells [.bj (D.bj (D.ae d 1))] bd false),(1,.an ah (D.aa (D.ae d 0)) true)])
@[reducible] def oB (s:(List UInt8)):List BV:=[.aG 0 0,.int .i64 4,.func (.func bU) [.aG 0 0] []]
@[reducible] def oC (s:(List UInt8)):List (Nat×ax):=[(0,.cells [.bj s] bd false)]
def me:RH:=fun _ _ d=> .ret (.aV 1 (D.aa (D.ae d 0)).length true,[(0,.cells [.bj (D.bj (D.ae d 1))] bd false),(1,.an bQ (D.aa (D.ae d 0)) true)])
@[reducible] def qb (s:(List UInt8)):List BV:=[.aG 0 0,.int .i64 5,.func (.func kK) [.aG 0 0] []]
@[reducible] def qf (s:(List UInt8)):List (Nat×ax):=[(0,.cells [.bj s] bd false)]
def oG:RH:=fun _ _ d=> .ret (.agg (aK pg bF (D.ae d 0)),[(0,.cells [.bj (D.bj (D.ae d 1))] bd false)])
@[reducible] def Au (s:(List UInt8)):List BV:=[.aG 0 0]
@[reducible] def Ax (s:(List UInt8)):List (Nat×ax):=[(0,.cells [.bj s] bd false)]
def nf:RH:=fun _ M d=>match M with| [_]=> .ite (D.bool (D.ae d 0)) (.ret (.int .i64 (D.int (D.ae d 1)),M)) (.ret (.int .i64 0,[(0,.cells [.bC bY (D.aa (D.ae d 2)),.bC ah (D.aa (D.ae d 3)),.bC bQ (D.aa (D.ae d 4)),.int .i64 (D.int (D.ae d 5)),.bC ah (D.aa (D.ae d 6))] bF false)]))|_=> .ret (.int .i64 (D.int d),M)
@[reducible] def Gf (s:(List UInt8))(c:Int):List BV:=[.bj s,.int .u8 c,.func (.func DQ) [] [.aG 0 0,.aG 1 0]]
@[reducible] def Cb (s:(List UInt8))(c:Int):List (Nat×ax):=[(0,.cells [.bJ,.bJ,.bJ,.int .i64 0,.bJ] bF false),(1,.cells [.bJ] cB false)]
abbrev ve:Nat:=iF
@[reducible] def EG:RH:=nf
@[reducible] def p8 (s:(List UInt8))(c:Int):List BV:=[.bj s,.int .u8 c,.func (.func ud) [] [.aG 0 0]]
@[reducible] def mZ (s:(List UInt8))(c:Int):List (Nat×ax):=[(0,.cells [.bJ,.bJ,.bJ,.int .i64 0,.bJ] bF false)]
def IV:RH:=fun _ _ d=> .ret (.tuple [.gT,.int .i64 (D.int d)],[])
@[reducible] def Nb (s:(List UInt8)):List BV:=[.bj s]
def oc:RH:=fun _ _ d=> .ite (D.bool (D.ae d 0)) (.ret (.tuple [.gT,.int .i64 (D.int (D.ae d 1))],[])) (.ret (.tuple [.aG 0 0,.int .i64 0],Wmf 6 (HX (D.ae d 2))))
@[reducible] def xS (s:(List UInt8)):List BV:=[.bj s]
def jC:RH:=fun _ _ d=> .ret (.int .u64 (D.int (D.ae d 0)),[(0,.cells [.bj (D.bj (D.ae d 1))] bd false)])
@[reducible] def qa (s:(List UInt8)):List BV:=[.aG 0 0]
@[reducible] def qe (s:(List UInt8)):List (Nat×ax):=[(0,.cells [.bj s] bd false)]
abbrev Fb:Nat:=ld
@[reducible] def Lz:RH:=vJ
@[reducible] def Eo:List BV:=[.gT]
@[reducible] def Ew:List (Nat×ax):=[]
def lZ:RH:=fun _ _ d=> .ret (.bool (D.bool d),[])
@[reducible] def p7 (l:List D)(m:List D):List BV:=[.bC bQ l,.bC bQ m,.func (.func wG) [] []]
def Bc:RH:=fun _ _ d=> .ret (.bool (D.bool d),[])
@[reducible] def G7:List BV:=[]
@[reducible] def G8:List (Nat×ax):=[]
def jB:RH:=fun _ _ d=> .ret (.bool (D.bool d),[])
@[reducible] def mu (y:D)(l:List D)(ni:Int)(jj:Int):List BV:=[.agg (aK pg bF y),.bC bZ l,.int .i64 ni,.int .u8 jj]
def frcN {R:Type}(n:Nat)(k:Nat->R):R:=match n with
 |0=>k 0
 |m+1=>k (m+1)
def orcGo:Nat->Nat->List rh->rh
 |0,_,_=> .all
 |f+1,n,st=>frcN (n/16) fun m=>frcN (m/256) fun q=>match n % 16,st with
  |1,st=>orcGo f m (.all::st)
  |2,b::a::st=>orcGo f m (.wV a b::st)
  |3,a::st=>orcGo f m (.lit a::st)
  |4,a::st=>orcGo f m (.sm a::st)
  |5,a::st=>orcGo f q (.Ip (m % 256) false a::st)
  |6,a::st=>orcGo f q (.no (m % 256) false a::st)
  |7,a::st=>orcGo f q (.Ip (m % 256) true a::st)
  |8,a::st=>orcGo f q (.no (m % 256) true a::st)
  |9,a::st=>orcGo f q (.ls a (m % 256)::st)
  |10,a::st=>frcN (q/256) fun r=>orcGo f r (.ys a (m % 256) (q % 256)::st)
  |11,a::st=>frcN (q/256) fun r=>orcGo f r (.ns a (m % 256) (q % 256)::st)
  |_,a::_=>a
  |_,_=> .all
def orc (n:Nat):rh:=orcGo 2000 n []
def hdS (f:FuncId)(n:Nat)(e:List (Nat×BV))(L:List (Nat×ax)):av:=adF pg f n e L
def wrC (W:WS)(a b c d:Nat):ax:= .cells [(.bC bY W.pa),(.aV a W.cu.length true),(.map b),(.map c),(.int .i64 W.la),(.aV d W.ma.length true)] aU false
def wrT (W:WS)(f:Nat):ax:= .bo bh (.cp f aO) W.th W.st W.ck
def wrF (W:WS):ax:= .bo aM (.data bh) W.fa W.sf W.cf
def rrC (R:RS)(a b c d:Nat):ax:= .cells [(.aV a R.pa.length true),(.aV b R.cu.length true),(.aV c R.th.length true),(.int .i64 R.la),(.aV d R.ma.length true)] bp false
abbrev PH (f:FuncId)(A:List BV)(M:List (Nat×ax))(p:Nat)(R:RH)(Q:D->Prop):=pj pg f A M p (R A M) Q
abbrev lk (C:cw)(G:sS)(s:av)(t:RT):Prop:=rk pg C G t->aC pg C.f C.rs G s
abbrev lp (C:cw)(ts:List TypeId)(ds:List D)(Q:D->Prop)(t:RT):Prop:=rk pg C (.kE Q) t->iq pg C.f ts ds C.rs Q
abbrev lh (C:cw)(A:List BV)(M:List (Nat×ax))(p:Nat)(R:RH)(Q:D->Prop)(t:RT):Prop:=rk pg C (.bu p (R A M) Q) t->pj pg C.f A M p (R A M) Q
def oE (C:cw){G:sS}{s:av}(o:Nat){t:RT}(hp:G.p<=C.p:=by exact afa _)(em:RT.A0 (orc o) (Go.PB.runT pg C 600 s)=RT.AZ (orc o) [] (Go.PB.runT pg C 600 s):=by as_aux_lemma=>kernel_rfl)(e:RT.pr (orc o) (Go.PB.runT pg C 600 s)=t:=by as_aux_lemma=>kernel_rfl):lk C G s t:=
 aC.kS Hq hp 600 (orc o) em e
def oP (C:cw){Q:D->Prop}{ts:List TypeId}{ds:List D}(o:Nat){t:RT}(hin:(dn pg C.f (wX pg ts ds) .normal).isSome=true:=by as_aux_lemma=>kernel_rfl)
 (em:RT.A0 (orc o) (Go.PB.runT pg C 600 ⟨(dn pg C.f (wX pg ts ds) .normal).getD default,[],hS⟩)=RT.AZ (orc o) [] (Go.PB.runT pg C 600 ⟨(dn pg C.f (wX pg ts ds) .normal).getD default,[],hS⟩):=by as_aux_lemma=>kernel_rfl)
 (e:RT.pr (orc o) (Go.PB.runT pg C 600 ⟨(dn pg C.f (wX pg ts ds) .normal).getD default,[],hS⟩)=t:=by as_aux_lemma=>kernel_rfl):lp C ts ds Q t:=
 iq.kS Hq 600 (orc o) hin em e
def oH (C:cw){Q:D->Prop}{A:List BV}{M:List (Nat×ax)}{p:Nat}{R:RH}(o:Nat){t:RT}(hp:C.bu=some p:=by rfl)(hin:(dn pg C.f A .normal).isSome=true:=by as_aux_lemma=>kernel_rfl)
 (em:RT.A0 (orc o) (Go.PB.runT pg C 600 ⟨(dn pg C.f A .normal).getD default,[],hL M⟩)=RT.AZ (orc o) [] (Go.PB.runT pg C 600 ⟨(dn pg C.f A .normal).getD default,[],hL M⟩):=by as_aux_lemma=>kernel_rfl)
 (e:RT.pr (orc o) (Go.PB.runT pg C 600 ⟨(dn pg C.f A .normal).getD default,[],hL M⟩)=t:=by as_aux_lemma=>kernel_rfl):lh C A M p R Q t:=
 pj.kS Hq 600 (orc o) hp hin em e
end Go.Proofs
namespace Go.Proofs
open Go Go.PB
attribute [simp] rk
abbrev nh:=List UInt8
abbrev ba (l:List Int):List D:=l.map D.z
def bL {x:Int}(h0:-(2^63)<=x)(h1:x<2^63):IntKind.i64.wrap x=x:=by
 have e1:(IntKind.i64).bits=64:=rfl
 have e2:(IntKind.i64).signed=true:=rfl
 simp only[wp,e1,e2,afB,aeT]
 omega
inductive aJ where
 |mk (k n:Int) (s:nh) (l:List aJ) (r:Int)
 deriving Inhabited
namespace aJ
def k:aJ->Int|mk k _ _ _ _=>k
def n:aJ->Int|mk _ n _ _ _=>n
def s:aJ->nh|mk _ _ s _ _=>s
def l:aJ->List aJ|mk _ _ _ l _=>l
def r:aJ->Int|mk _ _ _ _ r=>r
mutual
def az:aJ->D
 | .mk k n s l r=> .r [.z k,.z n,.s s,.r (CX l),.z r]
def CX:List aJ->List D
 | []=>[]
 |v::r=>az v::CX r
end
def vc:∀l,CX l=l.map az
 | []=>rfl
 |v::r=>by simp[CX,vc r]
def ind {M:aJ->Prop}(h:∀v:aJ,(∀x∈v.l,M x)->M v):∀v,M v:=by
 intro v
 refine aJ.rec (motive_1:=M) (motive_2:=fun l=>∀x∈l,M x) ?_ ?_ ?_ v
 ·intro k n s l r ih;exact h (.mk k n s l r) ih
 ·intro x hx;cases hx
 ·intro v l h1 h2 x hx
  rcases ae5.1 hx with rfl|hx
  ·exact h1
  ·exact h2 x hx
@[simp] def fA (v:aJ):D.int (D.ae v.az 0)=v.k:=by cases v;rfl
@[simp] def wB (v:aJ):D.int (D.ae v.az 1)=v.n:=by cases v;rfl
@[simp] def Hk (v:aJ):D.bj (D.ae v.az 2)=v.s:=by cases v;rfl
@[simp] def Bq (v:aJ):D.aa (D.ae v.az 3)=v.l.map az:=by cases v;simp[az,D.ae,D.at,D.aa,vc,l]
@[simp] def Dd (v:aJ):D.int (D.ae v.az 4)=v.r:=by cases v;rfl
def ay (v:aJ):v.az= .r [.z v.k,.z v.n,.s v.s,.r (v.l.map az),.z v.r]:=by cases v;simp[az,vc,k,n,s,l,r]
@[simp] def ady (v:aJ):D.aa v.az=[.z v.k,.z v.n,.s v.s,.r (v.l.map az),.z v.r]:=by rw[ay];rfl
mutual
def size:aJ->Nat
 | .mk _ _ _ l _=>1+bI l
def bI:List aJ->Nat
 | []=>0
 |v::r=>size v+bI r
end
mutual
def depth:aJ->Nat
 | .mk k _ _ l _=>if k=3 then hI l+1 else 0
def hI:List aJ->Nat
 | []=>0
 |v::r=>max (depth v) (hI r)
end
def field (v:aJ):Bool:=
 if v.k=0 then v.n==0&&v.s==[]&&v.l.length==0&&v.r==0
 else if v.k=1 then v.s==[]&&v.l.length==0&&v.r==0
 else if v.k=2 then v.n==0&&decide (v.s.length<=256)&&v.l.length==0&&v.r==0
 else if v.k=3 then v.n==0&&v.s==[]&&v.r==0
 else if v.k=4 then v.n==0&&v.s==[]&&v.l.length==0&&decide (v.r≥1)
 else false
mutual
def ft:aJ->Bool
 | .mk k n s l r=>kz l&&field (.mk k n s l r)
def kz:List aJ->Bool
 | []=>true
 |v::r=>ft v&&kz r
end
def fG (v:aJ):Bool:=decide (v.size<=512)&&decide (v.depth<=16)&&v.ft
mutual
def ok:aJ->Prop
 | .mk k n s l r=>0<=k/\k<256/\-2^63<=n/\n<2^63/\s.length<2^63/\l.length<2^63/\-2^63<=r/\r<2^63/\Mp l
def Mp:List aJ->Prop
 | []=>True
 |v::r=>ok v/\Mp r
end
def xI:∀l,Mp l↔∀x∈l,ok x
 | []=>by simp[Mp]
 |v::r=>by simp[Mp,xI r]
def lH (v:aJ):v.ok↔0<=v.k/\v.k<256/\-2^63<=v.n/\v.n<2^63/\v.s.length<2^63/\v.l.length<2^63/\-2^63<=v.r/\v.r<2^63/\∀x∈v.l,ok x:=by
 cases v;simp only[ok,xI,k,n,s,l,r]
def ok.k {v:aJ}(h:v.ok):IntKind.i64.wrap v.k=v.k:=by rw[lH]at h;exact bL (by omega) (by omega)
def ok.len {v:aJ}(h:v.ok):v.l.length<2^63:=by rw[lH]at h;omega
def ok.mem {v:aJ}(h:v.ok){x:aJ}(hx:x∈v.l):x.ok:=by rw[lH]at h;exact h.2.2.2.2.2.2.2.2 x hx
def gj (v:aJ):v.size=1+bI v.l:=by cases v;rfl
def Jk (v:aJ):v.depth=if v.k=3 then hI v.l+1 else 0:=by cases v;rfl
def pS (v:aJ):v.ft=(kz v.l&&v.field):=by cases v;rfl
def J5 (v:aJ):0<v.size:=by rw[gj];omega
def dx:∀l:List aJ,l.length<=bI l
 | []=>by simp[bI]
 |v::r=>by have:=J5 v;have:=dx r;simp only[bI,ae9];omega
end aJ
def bS {α:Type}{f:α->D}{l:List α}{i:Nat}{x:α}(h:l[i]?=some x):D.at (l.map f) i=f x:=by simp[D.at,List.getD,h]
def aI {α:Type}{l:List α}{i:Nat}{x:α}{r:List α}(h:l.drop i=x::r):l[i]?=some x/\l.drop (i+1)=r/\i<l.length:=by
 have h1:i<l.length:=by
  have:=afg List.length h;simp at this;omega
 refine⟨by have:=afg (·[0]?) h;simpa using this,?_,h1⟩
 rw[<-agk,h];rfl
def drop_nil {α:Type}{l:List α}{i:Nat}(h:l.drop i=[]):l.length<=i:=List.drop_eq_nil_iff.1 h
def Sf {n m:Int}{h:Decidable (m>n)}:@ite Int (m>n) h m n=max n m:=by split<;>omega
def bO {i n:Nat}(h:i<n)(hn:n<2^63):IntKind.i64.wrap ((i:Int)+1)=((i+1:Nat):Int):=by rw[bL (by omega) (by omega)];rfl
def abb {k:Int}(h0:0<=k)(h1:k<256):IntKind.i64.wrap k=k:=bL (by omega) (by omega)
def aY {i n:Nat}(h:i<n):dy (i:Int) n=true:=by simp[dy];omega
@[simp] def ml (v:aJ):ct pg ao v.az=v.az:=by cases v;kernel_rfl
end Go.Proofs
namespace Go.Proofs
open Go Go.PB
def VI (l:List D):kp l 0 l.length=l:=by cases l with|nil=>rfl|cons a r=>simp only[kp,ae9];rw[show Nat.beq (r.length+1) 0=false from rfl];simp
def aJ.BB:∀{l:List aJ} {x:aJ},aJ.kz l=true->x∈l->x.ft=true
 |v::r,x,h,hx=>by
  simp only[aJ.kz,aeV]at h
  rcases ae5.1 hx with rfl|hx
  ·exact h.1
  ·exact BB h.2 hx
def aJ.ok.ae {v x:aJ}(_:v.ok)(hf:v.ft=true)(hx:x∈v.l):x.ft=true:=by
 rw[aJ.pS,aeV]at hf;exact aJ.BB hf.1 hx
def aJ.VZ {v x:aJ}(hf:v.ft=true)(hx:x∈v.l):v.k=3:=by
 rw[aJ.pS,aeV]at hf
 have:=hf.2
 have hl:v.l≠[]:=fun h=>by rw[h]at hx;cases hx
 unfold aJ.field at this
 by_cases h3:v.k=3
 ·exact h3
 ·simp[h3,hl]at this
def aJ.fh:∀{l:List aJ} {x:aJ},x∈l->x.size<=bI l
 |v::r,x,h=>by
  unfold bI
  rcases ae5.1 h with rfl|h
  ·omega
  ·have:=fh h;omega
def aJ.CA:∀{l:List aJ} {x:aJ},x∈l->x.depth<=hI l
 |v::r,x,h=>by
  unfold hI
  rcases ae5.1 h with rfl|h
  ·omega
  ·have:=CA h;omega
end Go.Proofs
namespace Go.Proofs
open Go Go.PB
abbrev Im (l:List nh):List D:=l.map D.s
inductive Ex where
 |mk (k:Int) (n:Int) (s:nh) (l:List Ex)
 deriving Inhabited
namespace Ex
def k:Ex->Int|mk x _ _ _=>x
def n:Ex->Int|mk _ x _ _=>x
def s:Ex->nh|mk _ _ x _=>x
def l:Ex->List Ex|mk _ _ _ x=>x
mutual
def az:Ex->D
 | .mk k n s l=> .r [.z k,.z n,.s s,.r (CX l)]
def CX:List Ex->List D
 | []=>[]
 |v::r=>az v::CX r
end
def vc:∀l,CX l=l.map az
 | []=>rfl
 |v::r=>by simp[CX,vc r]
def ay (v:Ex):v.az= .r [.z v.k,.z v.n,.s v.s,.r (v.l.map az)]:=by cases v;simp[az,vc,k,n,s,l]
@[simp] def fA (v:Ex):D.int (D.ae v.az 0)=v.k:=by rw[ay];rfl
@[simp] def wB (v:Ex):D.int (D.ae v.az 1)=v.n:=by rw[ay];rfl
@[simp] def Hk (v:Ex):D.bj (D.ae v.az 2)=v.s:=by rw[ay];rfl
@[simp] def Bq (v:Ex):D.aa (D.ae v.az 3)=v.l.map az:=by rw[ay];rfl
@[simp] def re (v:Ex):ct pg aE v.az=v.az:=by rw[ay];kernel_rfl
mutual
def ok:Ex->Prop
 | .mk k n s l=>0<=k/\k<256/\-2^63<=n/\n<2^63/\s.length<2^63/\l.length<2^63/\Mp l
def Mp:List Ex->Prop
 | []=>True
 |v::r=>ok v/\Mp r
end
def xI:∀l,Mp l↔∀x∈l,ok x
 | []=>by simp[Mp]
 |v::r=>by simp[Mp,xI r]
def lH (v:Ex):v.ok↔0<=v.k/\v.k<256/\-2^63<=v.n/\v.n<2^63/\v.s.length<2^63/\v.l.length<2^63/\(∀x∈v.l,x.ok):=by
 cases v;simp only[ok,xI,k,n,s,l]
def ind {M:Ex->Prop}(h:∀v:Ex,(∀x∈v.l,M x)->M v):∀v,M v:=by
 intro v
 refine Ex.rec (motive_1:=M) (motive_2:=fun l=>∀x∈l,M x) ?_ ?_ ?_ v
 ·intro k n s l h3;exact h _ h3
 ·intro x hx;cases hx
 ·intro v l h1 h2 x hx
  rcases ae5.1 hx with rfl|hx
  ·exact h1
  ·exact h2 x hx
end Ex
inductive St where
 |mk (op:Int) (nm:nh) (sc:nh) (ab:Int) (wh:Int) (a:Ex) (b:Ex) (th:List St) (el:List St) (co:List St) (wi:List nh)
 deriving Inhabited
namespace St
def op:St->Int|mk x _ _ _ _ _ _ _ _ _ _=>x
def nm:St->nh|mk _ x _ _ _ _ _ _ _ _ _=>x
def sc:St->nh|mk _ _ x _ _ _ _ _ _ _ _=>x
def ab:St->Int|mk _ _ _ x _ _ _ _ _ _ _=>x
def wh:St->Int|mk _ _ _ _ x _ _ _ _ _ _=>x
def a:St->Ex|mk _ _ _ _ _ x _ _ _ _ _=>x
def b:St->Ex|mk _ _ _ _ _ _ x _ _ _ _=>x
def th:St->List St|mk _ _ _ _ _ _ _ x _ _ _=>x
def el:St->List St|mk _ _ _ _ _ _ _ _ x _ _=>x
def co:St->List St|mk _ _ _ _ _ _ _ _ _ x _=>x
def wi:St->List nh|mk _ _ _ _ _ _ _ _ _ _ x=>x
mutual
def az:St->D
 | .mk op nm sc ab wh a b th el co wi=> .r [.z op,.s nm,.s sc,.z ab,.z wh,a.az,b.az,.r (CX th),.r (CX el),.r (CX co),.r (Im wi)]
def CX:List St->List D
 | []=>[]
 |v::r=>az v::CX r
end
def vc:∀l,CX l=l.map az
 | []=>rfl
 |v::r=>by simp[CX,vc r]
def ay (v:St):v.az= .r [.z v.op,.s v.nm,.s v.sc,.z v.ab,.z v.wh,v.a.az,v.b.az,.r (v.th.map az),.r (v.el.map az),.r (v.co.map az),.r (Im v.wi)]:=by cases v;simp[az,vc,op,nm,sc,ab,wh,a,b,th,el,co,wi]
@[simp] def VQ (v:St):D.int (D.ae v.az 0)=v.op:=by rw[ay];rfl
@[simp] def wC (v:St):D.bj (D.ae v.az 1)=v.nm:=by rw[ay];rfl
@[simp] def Qd (v:St):D.bj (D.ae v.az 2)=v.sc:=by rw[ay];rfl
@[simp] def Jm (v:St):D.int (D.ae v.az 3)=v.ab:=by rw[ay];rfl
@[simp] def Qf (v:St):D.int (D.ae v.az 4)=v.wh:=by rw[ay];rfl
@[simp] def Dc (v:St):D.ae v.az 5=v.a.az:=by rw[ay];rfl
@[simp] def K3 (v:St):D.ae v.az 6=v.b.az:=by rw[ay];rfl
@[simp] def qw (v:St):D.aa (D.ae v.az 7)=v.th.map az:=by rw[ay];rfl
@[simp] def Jn (v:St):D.aa (D.ae v.az 8)=v.el.map az:=by rw[ay];rfl
@[simp] def pq (v:St):D.aa (D.ae v.az 9)=v.co.map az:=by rw[ay];rfl
@[simp] def Qg (v:St):D.aa (D.ae v.az 10)=Im v.wi:=by rw[ay];rfl
@[simp] def re (v:St):ct pg aT v.az=v.az:=by
 rw[ay];simp only[Ex.ay];kernel_rfl
mutual
def ok:St->Prop
 | .mk op nm sc ab wh a b th el co wi=>0<=op/\op<256/\nm.length<2^63/\sc.length<2^63/\0<=ab/\ab<256/\0<=wh/\wh<256/\a.ok/\b.ok/\th.length<2^63/\Mp th/\el.length<2^63/\Mp el/\co.length<2^63/\Mp co/\wi.length<2^63/\(∀x∈wi,x.length<2^63)
def Mp:List St->Prop
 | []=>True
 |v::r=>ok v/\Mp r
end
def xI:∀l,Mp l↔∀x∈l,ok x
 | []=>by simp[Mp]
 |v::r=>by simp[Mp,xI r]
def lH (v:St):v.ok↔0<=v.op/\v.op<256/\v.nm.length<2^63/\v.sc.length<2^63/\0<=v.ab/\v.ab<256/\0<=v.wh/\v.wh<256/\v.a.ok/\v.b.ok/\v.th.length<2^63/\(∀x∈v.th,x.ok)/\v.el.length<2^63/\(∀x∈v.el,x.ok)/\v.co.length<2^63/\(∀x∈v.co,x.ok)/\v.wi.length<2^63/\(∀x∈v.wi,x.length<2^63):=by
 cases v;simp only[ok,xI,op,nm,sc,ab,wh,a,b,th,el,co,wi]
def ind {M:St->Prop}(h:∀v:St,(∀x∈v.th,M x)->(∀x∈v.el,M x)->(∀x∈v.co,M x)->M v):∀v,M v:=by
 intro v
 refine St.rec (motive_1:=M) (motive_2:=fun l=>∀x∈l,M x) ?_ ?_ ?_ v
 ·intro op nm sc ab wh a b th el co wi h7 h8 h9;exact h _ h7 h8 h9
 ·intro x hx;cases hx
 ·intro v l h1 h2 x hx
  rcases ae5.1 hx with rfl|hx
  ·exact h1
  ·exact h2 x hx
end St
structure jV where
 nm:nh
 v:aJ
 deriving Inhabited
namespace jV
def az (v:jV):D:= .r [.s v.nm,v.v.az]
def ay (v:jV):v.az= .r [.s v.nm,v.v.az]:=rfl
@[simp] def wC (v:jV):D.bj (D.ae v.az 0)=v.nm:=by rw[ay];rfl
@[simp] def rq (v:jV):D.ae v.az 1=v.v.az:=by rw[ay];rfl
@[simp] def re (v:jV):ct pg fT v.az=v.az:=by
 rw[ay];simp only[aJ.ay];kernel_rfl
def ok (v:jV):Prop:=v.nm.length<2^63/\v.v.ok
end jV
structure Wh where
 k:Int
 h:Int
 v:aJ
 vs:List aJ
 n:Int
 lo:Int
 of:Int
 jj:Int
 set:Int
 GC:Bool
 co:List St
 ns:List jV
 deriving Inhabited
namespace Wh
def az (v:Wh):D:= .r [.z v.k,.z v.h,v.v.az,.r (v.vs.map aJ.az),.z v.n,.z v.lo,.z v.of,.z v.jj,.z v.set,.b v.GC,.r (v.co.map St.az),.r (v.ns.map jV.az)]
def ay (v:Wh):v.az= .r [.z v.k,.z v.h,v.v.az,.r (v.vs.map aJ.az),.z v.n,.z v.lo,.z v.of,.z v.jj,.z v.set,.b v.GC,.r (v.co.map St.az),.r (v.ns.map jV.az)]:=rfl
@[simp] def fA (v:Wh):D.int (D.ae v.az 0)=v.k:=by rw[ay];rfl
@[simp] def qu (v:Wh):D.int (D.ae v.az 1)=v.h:=by rw[ay];rfl
@[simp] def rq (v:Wh):D.ae v.az 2=v.v.az:=by rw[ay];rfl
@[simp] def Bs (v:Wh):D.aa (D.ae v.az 3)=v.vs.map aJ.az:=by rw[ay];rfl
@[simp] def wB (v:Wh):D.int (D.ae v.az 4)=v.n:=by rw[ay];rfl
@[simp] def Gx (v:Wh):D.int (D.ae v.az 5)=v.lo:=by rw[ay];rfl
@[simp] def kr (v:Wh):D.int (D.ae v.az 6)=v.of:=by rw[ay];rfl
@[simp] def qt (v:Wh):D.int (D.ae v.az 7)=v.jj:=by rw[ay];rfl
@[simp] def oN (v:Wh):D.int (D.ae v.az 8)=v.set:=by rw[ay];rfl
@[simp] def yR (v:Wh):D.bool (D.ae v.az 9)=v.GC:=by rw[ay];rfl
@[simp] def pq (v:Wh):D.aa (D.ae v.az 10)=v.co.map St.az:=by rw[ay];rfl
@[simp] def lC (v:Wh):D.aa (D.ae v.az 11)=v.ns.map jV.az:=by rw[ay];rfl
@[simp] def re (v:Wh):ct pg aO v.az=v.az:=by
 rw[ay];simp only[aJ.ay];kernel_rfl
def ok (v:Wh):Prop:=0<=v.k/\v.k<256/\-2^63<=v.h/\v.h<2^63/\v.v.ok/\v.vs.length<2^63/\(∀x∈v.vs,x.ok)/\-2^63<=v.n/\v.n<2^63/\-2^63<=v.lo/\v.lo<2^63/\-2^63<=v.of/\v.of<2^63/\-2^63<=v.jj/\v.jj<2^63/\0<=v.set/\v.set<256/\v.co.length<2^63/\(∀x∈v.co,x.ok)/\v.ns.length<2^63/\(∀x∈v.ns,x.ok)
end Wh
structure En where
 r:Int
 w:Wh
 deriving Inhabited
namespace En
def az (v:En):D:= .r [.z v.r,v.w.az]
def ay (v:En):v.az= .r [.z v.r,v.w.az]:=rfl
@[simp] def Dd (v:En):D.int (D.ae v.az 0)=v.r:=by rw[ay];rfl
@[simp] def R6 (v:En):D.ae v.az 1=v.w.az:=by rw[ay];rfl
@[simp] def re (v:En):ct pg bQ v.az=v.az:=by
 rw[ay];simp only[aJ.ay,Wh.ay];kernel_rfl
def ok (v:En):Prop:=-2^63<=v.r/\v.r<2^63/\v.w.ok
end En
structure Wl where
 pa:List Int
 cu:List Int
 th:List En
 la:Int
 ma:List Int
 deriving Inhabited
namespace Wl
def az (v:Wl):D:= .r [.r (ba v.pa),.r (ba v.cu),.r (v.th.map En.az),.z v.la,.r (ba v.ma)]
def ay (v:Wl):v.az= .r [.r (ba v.pa),.r (ba v.cu),.r (v.th.map En.az),.z v.la,.r (ba v.ma)]:=rfl
@[simp] def qv (v:Wl):D.aa (D.ae v.az 0)=ba v.pa:=by rw[ay];rfl
@[simp] def L4 (v:Wl):D.aa (D.ae v.az 1)=ba v.cu:=by rw[ay];rfl
@[simp] def qw (v:Wl):D.aa (D.ae v.az 2)=v.th.map En.az:=by rw[ay];rfl
@[simp] def Br (v:Wl):D.int (D.ae v.az 3)=v.la:=by rw[ay];rfl
@[simp] def zT (v:Wl):D.aa (D.ae v.az 4)=ba v.ma:=by rw[ay];rfl
@[simp] def re (v:Wl):ct pg bF v.az=v.az:=by rw[ay];kernel_rfl
def ok (v:Wl):Prop:=v.pa.length<2^63/\(∀x∈v.pa,-2^63<=x/\x<2^63)/\v.cu.length<2^63/\(∀x∈v.cu,-2^63<=x/\x<2^63)/\v.th.length<2^63/\(∀x∈v.th,x.ok)/\-2^63<=v.la/\v.la<2^63/\v.ma.length<2^63/\(∀x∈v.ma,-2^63<=x/\x<2^63)
end Wl
structure Su where
 si:Int
 co:List St
 ns:List jV
 se:List Int
 deriving Inhabited
namespace Su
def az (v:Su):D:= .r [.z v.si,.r (v.co.map St.az),.r (v.ns.map jV.az),.r (ba v.se)]
def ay (v:Su):v.az= .r [.z v.si,.r (v.co.map St.az),.r (v.ns.map jV.az),.r (ba v.se)]:=rfl
@[simp] def VR (v:Su):D.int (D.ae v.az 0)=v.si:=by rw[ay];rfl
@[simp] def pq (v:Su):D.aa (D.ae v.az 1)=v.co.map St.az:=by rw[ay];rfl
@[simp] def lC (v:Su):D.aa (D.ae v.az 2)=v.ns.map jV.az:=by rw[ay];rfl
@[simp] def Qe (v:Su):D.aa (D.ae v.az 3)=ba v.se:=by rw[ay];rfl
@[simp] def re (v:Su):ct pg bZ v.az=v.az:=by rw[ay];kernel_rfl
def ok (v:Su):Prop:=-2^63<=v.si/\v.si<2^63/\v.co.length<2^63/\(∀x∈v.co,x.ok)/\v.ns.length<2^63/\(∀x∈v.ns,x.ok)/\v.se.length<2^63/\(∀x∈v.se,-2^63<=x/\x<2^63)
end Su
section
inductive U9 where
 |all
 |wV (l r:U9)
 |LZ
def RT.kp:U9->RT->RT
 | .LZ,_=> .bq
 | .wV a b,.ite c t e=> .ite c (RT.kp a t) (RT.kp b e)
 |o,.call f ds k=> .call f ds fun d=>RT.kp o (k d)
 |o,.aq f ags L p k=> .aq f ags L p fun d=>RT.kp o (k d)
 |_,t=>t
section
variable {P:Program} {C:cw} {G:sS}
def RT.Ze:∀(t:RT) (o:U9),rk P C G (RT.kp o t)->rk P C G t:=by
 intro t
 induction t with
 |ite c t e iht ihe=>
  intro o h
  cases o with
  |all=>simpa only[RT.kp]using h
  |LZ=>simp only[RT.kp,rk]at h
  |wV a b=>
   simp only[RT.kp,rk]at h ⊢
   exact⟨fun hc=>iht _ (h.1 hc),fun hc=>ihe _ (h.2 hc)⟩
 |call f ds k ih=>
  intro o h
  cases o with
  |LZ=>simp only[RT.kp,rk]at h
  |_=>
   simp only[RT.kp,rk]at h ⊢
   obtain⟨ts,rs,Q',h1,h2,h3⟩:=h
   exact⟨ts,rs,Q',h1,h2,fun d hd=>ih d _ (h3 d hd)⟩
 |aq f ags L p k ih=>
  intro o h
  cases o with
  |LZ=>simp only[RT.kp,rk]at h
  |_=>
   simp only[RT.kp,rk]at h ⊢
   obtain⟨R,Q',h1,h2,h3⟩:=h
   exact⟨R,Q',h1,h2,fun d hd=>ih d _ (h3 d hd)⟩
 |_=>
  intro o h
  cases o with
  |LZ=>simp only[RT.kp,rk]at h
  |_=>simpa only[RT.kp]using h
def pj.WW (hmix:P.follows .mixedOrders=true){Q:D->Prop}(n:Nat){p:Nat}{ags:List BV}{L:List (Nat×ax)}{R:D->T (BV×List (Nat×ax))}(o:rh)(q:U9){t:RT}(hp:C.bu=some p)(hin:(dn P C.f ags .normal).isSome=true)
 (em:RT.A0 o (Go.PB.runT P C n ⟨(dn P C.f ags .normal).getD default,[],hL L⟩)=RT.AZ o [] (Go.PB.runT P C n ⟨(dn P C.f ags .normal).getD default,[],hL L⟩))
 (e:RT.kp q (RT.pr o (Go.PB.runT P C n ⟨(dn P C.f ags .normal).getD default,[],hL L⟩))=t)(h:rk P C (.bu p R Q) t):pj P C.f ags L p R Q:=
 pj.kS hmix n o hp hin em rfl (RT.Ze _ q (by rw[e];exact h))
end
def oD (C:cw){Q:D->Prop}{A:List BV}{M:List (Nat×ax)}{p:Nat}{R:RH}(o:Nat)(q:U9){t:RT}(hp:C.bu=some p:=by rfl)(hin:(dn pg C.f A .normal).isSome=true:=by as_aux_lemma=>kernel_rfl)
 (em:RT.A0 (orc o) (Go.PB.runT pg C 600 ⟨(dn pg C.f A .normal).getD default,[],hL M⟩)=RT.AZ (orc o) [] (Go.PB.runT pg C 600 ⟨(dn pg C.f A .normal).getD default,[],hL M⟩):=by as_aux_lemma=>kernel_rfl)
 (e:RT.kp q (RT.pr (orc o) (Go.PB.runT pg C 600 ⟨(dn pg C.f A .normal).getD default,[],hL M⟩))=t:=by as_aux_lemma=>kernel_rfl):lh C A M p R Q t:=
 pj.WW Hq 600 (orc o) q hp hin em e
end
end Go.Proofs
end
