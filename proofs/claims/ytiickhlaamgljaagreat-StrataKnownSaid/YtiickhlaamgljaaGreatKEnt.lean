/-
 For countersignlaw18.StrataKnown: calls that the run makes. No conditions beyond those that each theorem states.
-/
import Derived.Test.YtiickhlaamgljaaGreatLawB
set_option linter.unusedSimpArgs false
set_option linter.unusedVariables false
noncomputable section
/-
 Calls that the run makes: what each finds and leaves in memory (printed by a program).
-/
namespace Go.Di
open Go.Ev
def e0 : Kn :=
 ⟨11, [.agg [.int .i64 (.ofNat 256), .sl 1021 0 255 255 false]], 1024, [⟨1021, qaa 3 (qej dnE)⟩], .tup [.sl 161447 0 256 256 true, .int .i64 (.ofNat 0)], 230298, [⟨1021, .dead⟩, ⟨161447, qaa 0 (nats dnN)⟩]⟩
def e1 : Kn :=
 ⟨12, [.agg [.int .i64 (.ofNat 256), .sl 1023 0 256 256 false]], 230298, [⟨1023, qaa 3 (qej rdE)⟩], .tup [.sl 320504 0 256 256 true, .int .i64 (.ofNat 0)], 320505, [⟨1023, .dead⟩, ⟨320504, qaa 0 (nats rdN')⟩]⟩
def e2 : Kn :=
 ⟨29, [.str 182 974498021534339961106359283144685348102604750412787384421540892857249544893662556624312949786779356775892059416906360699258005915306138525459461871065021112089883394795193403878027970113505824565131240051951965404443697466834559680831399767647480362601344124526442341441714250661330649307471898477669475704531716234506658760074706013646181028756429892287119979475595875318274739785900367339426296275830338284530261915495811492390340747630], 320505, [],
 .agg [.sl 320855 0 2 2 false], 320857, [⟨320745, qaa 2 [.str 1 103, .str 0 0, .str 1 103, .str 1 109]⟩,
  ⟨320747, qaa 6 [.str 1 109, .sl 320745 0 2 2 false, .int .u8 (.ofNat 1), .str 0 0, .str 0 0, .nilsl]⟩,
  ⟨320759, qaa 2 [.str 1 100, .str 0 0, .str 1 103, .str 0 0]⟩,
  ⟨320767, qaa 2 [.str 1 103, .str 1 109]⟩,
  ⟨320784, qaa 4 [.int .u8 (.ofNat 1), .str 0 0, .str 0 0, .nilsl, .int .u8 (.ofNat 3), .str 1 112, .str 1 118, .nilsl]⟩,
  ⟨320790, qaa 4 [.int .u8 (.ofNat 4), .str 0 0, .str 0 0, .sl 320784 0 2 2 false, .int .u8 (.ofNat 2), .str 1 120, .str 0 0, .nilsl]⟩,
  ⟨320804, qaa 2 [.str 1 103, .str 0 0]⟩,
  ⟨320825, qaa 4 [.int .u8 (.ofNat 2), .str 1 121, .str 0 0, .nilsl, .int .u8 (.ofNat 2), .str 1 122, .str 0 0, .nilsl]⟩,
  ⟨320827, qaa 4 [.int .u8 (.ofNat 1), .str 0 0, .str 0 0, .nilsl, .int .u8 (.ofNat 5), .str 0 0, .str 0 0, .sl 320825 0 2 2 false]⟩,
  ⟨320841, qaa 2 [.str 1 103, .str 0 0]⟩,
  ⟨320853, qaa 6 [.str 1 112, .sl 320759 0 2 2 false, .int .u8 (.ofNat 1), .str 0 0, .str 0 0, .nilsl, .str 1 118, .sl 320767 0 1 1 false, .int .u8 (.ofNat 6), .str 0 0, .str 0 0, .sl 320790 0 2 2 false, .str 1 120, .sl 320804 0 1 1 false, .int .u8 (.ofNat 6), .str 0 0, .str 0 0, .sl 320827 0 2 2 false, .str 1 121, .sl 320841 0 1 1 false, .int .u8 (.ofNat 1), .str 0 0, .str 0 0, .nilsl, .str 1 122, .nilsl, .int .u8 (.ofNat 3), .str 1 112, .str 1 121, .nilsl]⟩,
  ⟨320855, qaa 2 [.str 1 103, .sl 320747 0 1 1 false, .str 1 100, .sl 320853 0 5 5 false]⟩]⟩
def e4 : Kn :=
 ⟨29, [.str 82 146145157595412603339007835711088582784447944385837255033674408000183051717480965110399781783903909851466355307110072668158801740364732128335435363259089563963620692638764742366248690075403767603566], 337068, [],
 .agg [.sl 337207 0 1 1 false], 337209, [⟨337170, qaa 2 [.str 1 100, .str 0 0]⟩,
  ⟨337178, qaa 2 [.str 1 100, .str 0 0]⟩,
  ⟨337189, qaa 4 [.int .u8 (.ofNat 1), .str 0 0, .str 0 0, .nilsl, .int .u8 (.ofNat 3), .str 1 112, .str 1 119, .nilsl]⟩,
  ⟨337205, qaa 6 [.str 1 112, .sl 337170 0 1 1 false, .int .u8 (.ofNat 1), .str 0 0, .str 0 0, .nilsl, .str 1 118, .sl 337178 0 1 1 false, .int .u8 (.ofNat 6), .str 0 0, .str 0 0, .sl 337189 0 2 2 false, .str 1 119, .nilsl, .int .u8 (.ofNat 3), .str 1 112, .str 1 118, .nilsl]⟩,
  ⟨337207, qaa 2 [.str 1 100, .sl 337205 0 3 3 false]⟩]⟩
def e5 : Kn :=
 ⟨29, [.str 66 429482002175120783436922337553673983983814320512027987864218207726985804207129584464706290704414897906793542554054239280186720321226369649225245042829681320302], 337210, [],
 .agg [.sl 337338 0 1 1 false], 337340, [⟨337297, qaa 2 [.str 1 100, .str 0 0]⟩,
  ⟨337305, qaa 2 [.str 1 100, .str 0 0]⟩,
  ⟨337326, qaa 4 [.int .u8 (.ofNat 2), .str 1 112, .str 0 0, .nilsl, .int .u8 (.ofNat 2), .str 1 118, .str 0 0, .nilsl]⟩,
  ⟨337328, qaa 4 [.int .u8 (.ofNat 1), .str 0 0, .str 0 0, .nilsl, .int .u8 (.ofNat 6), .str 0 0, .str 0 0, .sl 337326 0 2 2 false]⟩,
  ⟨337336, qaa 6 [.str 1 112, .sl 337297 0 1 1 false, .int .u8 (.ofNat 1), .str 0 0, .str 0 0, .nilsl, .str 1 118, .sl 337305 0 1 1 false, .int .u8 (.ofNat 6), .str 0 0, .str 0 0, .sl 337328 0 2 2 false]⟩,
  ⟨337338, qaa 2 [.str 1 100, .sl 337336 0 2 2 false]⟩]⟩
def e6 : Kn :=
 ⟨18, [.agg [.sl 337207 0 1 1 false]], 337354, [⟨337170, qaa 2 [.str 1 100, .str 0 0]⟩,
  ⟨337178, qaa 2 [.str 1 100, .str 0 0]⟩,
  ⟨337189, qaa 4 [.int .u8 (.ofNat 1), .str 0 0, .str 0 0, .nilsl, .int .u8 (.ofNat 3), .str 1 112, .str 1 119, .nilsl]⟩,
  ⟨337205, qaa 6 [.str 1 112, .sl 337170 0 1 1 false, .int .u8 (.ofNat 1), .str 0 0, .str 0 0, .nilsl, .str 1 118, .sl 337178 0 1 1 false, .int .u8 (.ofNat 6), .str 0 0, .str 0 0, .sl 337189 0 2 2 false, .str 1 119, .nilsl, .int .u8 (.ofNat 3), .str 1 112, .str 1 118, .nilsl]⟩,
  ⟨337207, qaa 2 [.str 1 100, .sl 337205 0 3 3 false]⟩],
 .int .i64 (.ofNat 12), 339788, [⟨337170, qaa 2 [.str 1 100, .str 0 0]⟩,
  ⟨337178, qaa 2 [.str 1 100, .str 0 0]⟩,
  ⟨337189, qaa 4 [.int .u8 (.ofNat 1), .str 0 0, .str 0 0, .nilsl, .int .u8 (.ofNat 3), .str 1 112, .str 1 119, .nilsl]⟩,
  ⟨337205, qaa 6 [.str 1 112, .sl 337170 0 1 1 false, .int .u8 (.ofNat 1), .str 0 0, .str 0 0, .nilsl, .str 1 118, .sl 337178 0 1 1 false, .int .u8 (.ofNat 6), .str 0 0, .str 0 0, .sl 337189 0 2 2 false, .str 1 119, .nilsl, .int .u8 (.ofNat 3), .str 1 112, .str 1 118, .nilsl]⟩,
  ⟨337207, qaa 2 [.str 1 100, .sl 337205 0 3 3 false]⟩]⟩
def e7 : Kn :=
 ⟨18, [.agg [.sl 337338 0 1 1 false]], 339788, [⟨337297, qaa 2 [.str 1 100, .str 0 0]⟩,
  ⟨337305, qaa 2 [.str 1 100, .str 0 0]⟩,
  ⟨337326, qaa 4 [.int .u8 (.ofNat 2), .str 1 112, .str 0 0, .nilsl, .int .u8 (.ofNat 2), .str 1 118, .str 0 0, .nilsl]⟩,
  ⟨337328, qaa 4 [.int .u8 (.ofNat 1), .str 0 0, .str 0 0, .nilsl, .int .u8 (.ofNat 6), .str 0 0, .str 0 0, .sl 337326 0 2 2 false]⟩,
  ⟨337336, qaa 6 [.str 1 112, .sl 337297 0 1 1 false, .int .u8 (.ofNat 1), .str 0 0, .str 0 0, .nilsl, .str 1 118, .sl 337305 0 1 1 false, .int .u8 (.ofNat 6), .str 0 0, .str 0 0, .sl 337328 0 2 2 false]⟩,
  ⟨337338, qaa 2 [.str 1 100, .sl 337336 0 2 2 false]⟩],
 .int .i64 (.ofNat 12), 340906, [⟨337297, qaa 2 [.str 1 100, .str 0 0]⟩,
  ⟨337305, qaa 2 [.str 1 100, .str 0 0]⟩,
  ⟨337326, qaa 4 [.int .u8 (.ofNat 2), .str 1 112, .str 0 0, .nilsl, .int .u8 (.ofNat 2), .str 1 118, .str 0 0, .nilsl]⟩,
  ⟨337328, qaa 4 [.int .u8 (.ofNat 1), .str 0 0, .str 0 0, .nilsl, .int .u8 (.ofNat 6), .str 0 0, .str 0 0, .sl 337326 0 2 2 false]⟩,
  ⟨337336, qaa 6 [.str 1 112, .sl 337297 0 1 1 false, .int .u8 (.ofNat 1), .str 0 0, .str 0 0, .nilsl, .str 1 118, .sl 337305 0 1 1 false, .int .u8 (.ofNat 6), .str 0 0, .str 0 0, .sl 337328 0 2 2 false]⟩,
  ⟨337338, qaa 2 [.str 1 100, .sl 337336 0 2 2 false]⟩]⟩
def e3 : Kn :=
 ⟨17, [.agg [.sl 320855 0 2 2 false]], 320858, [⟨320745, qaa 2 [.str 1 103, .str 0 0, .str 1 103, .str 1 109]⟩,
  ⟨320747, qaa 6 [.str 1 109, .sl 320745 0 2 2 false, .int .u8 (.ofNat 1), .str 0 0, .str 0 0, .nilsl]⟩,
  ⟨320759, qaa 2 [.str 1 100, .str 0 0, .str 1 103, .str 0 0]⟩,
  ⟨320767, qaa 2 [.str 1 103, .str 1 109]⟩,
  ⟨320784, qaa 4 [.int .u8 (.ofNat 1), .str 0 0, .str 0 0, .nilsl, .int .u8 (.ofNat 3), .str 1 112, .str 1 118, .nilsl]⟩,
  ⟨320790, qaa 4 [.int .u8 (.ofNat 4), .str 0 0, .str 0 0, .sl 320784 0 2 2 false, .int .u8 (.ofNat 2), .str 1 120, .str 0 0, .nilsl]⟩,
  ⟨320804, qaa 2 [.str 1 103, .str 0 0]⟩,
  ⟨320825, qaa 4 [.int .u8 (.ofNat 2), .str 1 121, .str 0 0, .nilsl, .int .u8 (.ofNat 2), .str 1 122, .str 0 0, .nilsl]⟩,
  ⟨320827, qaa 4 [.int .u8 (.ofNat 1), .str 0 0, .str 0 0, .nilsl, .int .u8 (.ofNat 5), .str 0 0, .str 0 0, .sl 320825 0 2 2 false]⟩,
  ⟨320841, qaa 2 [.str 1 103, .str 0 0]⟩,
  ⟨320853, qaa 6 [.str 1 112, .sl 320759 0 2 2 false, .int .u8 (.ofNat 1), .str 0 0, .str 0 0, .nilsl, .str 1 118, .sl 320767 0 1 1 false, .int .u8 (.ofNat 6), .str 0 0, .str 0 0, .sl 320790 0 2 2 false, .str 1 120, .sl 320804 0 1 1 false, .int .u8 (.ofNat 6), .str 0 0, .str 0 0, .sl 320827 0 2 2 false, .str 1 121, .sl 320841 0 1 1 false, .int .u8 (.ofNat 1), .str 0 0, .str 0 0, .nilsl, .str 1 122, .nilsl, .int .u8 (.ofNat 3), .str 1 112, .str 1 121, .nilsl]⟩,
  ⟨320855, qaa 2 [.str 1 103, .sl 320747 0 1 1 false, .str 1 100, .sl 320853 0 5 5 false]⟩],
 .tup [.agg [.sl 327383 0 6 6 true], .int .i64 (.ofNat 0)], 337051, [⟨320745, qaa 2 [.str 1 103, .str 0 0, .str 1 103, .str 1 109]⟩,
  ⟨320747, qaa 6 [.str 1 109, .sl 320745 0 2 2 false, .int .u8 (.ofNat 1), .str 0 0, .str 0 0, .nilsl]⟩,
  ⟨320759, qaa 2 [.str 1 100, .str 0 0, .str 1 103, .str 0 0]⟩,
  ⟨320767, qaa 2 [.str 1 103, .str 1 109]⟩,
  ⟨320784, qaa 4 [.int .u8 (.ofNat 1), .str 0 0, .str 0 0, .nilsl, .int .u8 (.ofNat 3), .str 1 112, .str 1 118, .nilsl]⟩,
  ⟨320790, qaa 4 [.int .u8 (.ofNat 4), .str 0 0, .str 0 0, .sl 320784 0 2 2 false, .int .u8 (.ofNat 2), .str 1 120, .str 0 0, .nilsl]⟩,
  ⟨320804, qaa 2 [.str 1 103, .str 0 0]⟩,
  ⟨320825, qaa 4 [.int .u8 (.ofNat 2), .str 1 121, .str 0 0, .nilsl, .int .u8 (.ofNat 2), .str 1 122, .str 0 0, .nilsl]⟩,
  ⟨320827, qaa 4 [.int .u8 (.ofNat 1), .str 0 0, .str 0 0, .nilsl, .int .u8 (.ofNat 5), .str 0 0, .str 0 0, .sl 320825 0 2 2 false]⟩,
  ⟨320841, qaa 2 [.str 1 103, .str 0 0]⟩,
  ⟨320853, qaa 6 [.str 1 112, .sl 320759 0 2 2 false, .int .u8 (.ofNat 1), .str 0 0, .str 0 0, .nilsl, .str 1 118, .sl 320767 0 1 1 false, .int .u8 (.ofNat 6), .str 0 0, .str 0 0, .sl 320790 0 2 2 false, .str 1 120, .sl 320804 0 1 1 false, .int .u8 (.ofNat 6), .str 0 0, .str 0 0, .sl 320827 0 2 2 false, .str 1 121, .sl 320841 0 1 1 false, .int .u8 (.ofNat 1), .str 0 0, .str 0 0, .nilsl, .str 1 122, .nilsl, .int .u8 (.ofNat 3), .str 1 112, .str 1 121, .nilsl]⟩,
  ⟨320855, qaa 2 [.str 1 103, .sl 320747 0 1 1 false, .str 1 100, .sl 320853 0 5 5 false]⟩,
  ⟨327383, qaa 0 [.str 1 103, .str 1 109, .int .i64 (.ofNat 0), .str 1 100, .str 1 112, .int .i64 (.ofNat 0), .str 1 100, .str 1 118, .int .i64 (.ofNat 2), .str 1 100, .str 1 120, .int .i64 (.ofNat 1), .str 1 100, .str 1 121, .int .i64 (.ofNat 0), .str 1 100, .str 1 122, .int .i64 (.ofNat 0)]⟩]⟩
def e8 : Kn :=
 ⟨14, [], 340906, [],
 .bool true, 347565, []⟩
def l1 : List Kn := [e2, e4, e5, e6, e7]
def l2 : List Kn := [e3]
def l3 : List Kn := [e8]
def lAll : List Kn := [e0, e1] ++ l1 ++ l2 ++ l3
end Go.Di
end
