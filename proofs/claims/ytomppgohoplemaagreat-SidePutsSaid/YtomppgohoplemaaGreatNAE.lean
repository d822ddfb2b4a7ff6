import Derived.Test.YtomppgohoplemaaGreatNAD
import Derived.Test.YtomppgohoplemaaGreatNAC
import Derived.Outline
import Derived.Test.YtomppgohoplemaaGreatRows
import Derived.Maps.RangeWalk
import Derived.Lib.OthersKept
import Derived.IntWalk
set_option linter.unusedVariables false
namespace Go.Proofs.YtomppgohoplemaaGreat
open Go.RowKit
def refNames:List ByteArray:=[⟨#[117,110,114,101,97,99,104,97,98,108,101]⟩,⟨#[110,111,112]⟩,⟨#[98,108,111,99,107]⟩,⟨#[108,111,111,112]⟩,⟨#[105,102]⟩,⟨#[101,108,115,101]⟩,⟨#[]⟩,⟨#[]⟩,⟨#[]⟩,⟨#[]⟩,⟨#[]⟩,⟨#[101,110,100]⟩,⟨#[98,114]⟩,⟨#[98,114,95,105,102]⟩,⟨#[98,114,95,116,97,98,108,101]⟩,⟨#[114,101,116,117,114,110]⟩,⟨#[99,97,108,108]⟩,⟨#[99,97,108,108,95,105,110,100,105,114,101,99,116]⟩,⟨#[]⟩,⟨#[]⟩,⟨#[]⟩,⟨#[]⟩,⟨#[]⟩,⟨#[]⟩,⟨#[]⟩,⟨#[]⟩,⟨#[100,114,111,112]⟩,⟨#[115,101,108,101,99,116]⟩,⟨#[]⟩,⟨#[]⟩,⟨#[]⟩,⟨#[]⟩,⟨#[108,111,99,97,108,46,103,101,116]⟩,⟨#[108,111,99,97,108,46,115,101,116]⟩,⟨#[108,111,99,97,108,46,116,101,101]⟩,⟨#[103,108,111,98,97,108,46,103,101,116]⟩,⟨#[103,108,111,98,97,108,46,115,101,116]⟩,⟨#[]⟩,⟨#[]⟩,⟨#[]⟩,⟨#[105,51,50,46,108,111,97,100]⟩,⟨#[105,54,52,46,108,111,97,100]⟩,⟨#[]⟩,⟨#[]⟩,⟨#[105,51,50,46,108,111,97,100,56,95,115]⟩,⟨#[105,51,50,46,108,111,97,100,56,95,117]⟩,⟨#[105,51,50,46,108,111,97,100,49,54,95,115]⟩,⟨#[105,51,50,46,108,111,97,100,49,54,95,117]⟩,⟨#[105,54,52,46,108,111,97,100,56,95,115]⟩,⟨#[105,54,52,46,108,111,97,100,56,95,117]⟩,⟨#[105,54,52,46,108,111,97,100,49,54,95,115]⟩,⟨#[105,54,52,46,108,111,97,100,49,54,95,117]⟩,⟨#[105,54,52,46,108,111,97,100,51,50,95,115]⟩,⟨#[105,54,52,46,108,111,97,100,51,50,95,117]⟩,⟨#[105,51,50,46,115,116,111,114,101]⟩,⟨#[105,54,52,46,115,116,111,114,101]⟩,⟨#[]⟩,⟨#[]⟩,⟨#[105,51,50,46,115,116,111,114,101,56]⟩,⟨#[105,51,50,46,115,116,111,114,101,49,54]⟩,⟨#[105,54,52,46,115,116,111,114,101,56]⟩,⟨#[105,54,52,46,115,116,111,114,101,49,54]⟩,⟨#[105,54,52,46,115,116,111,114,101,51,50]⟩,⟨#[109,101,109,111,114,121,46,115,105,122,101]⟩,⟨#[109,101,109,111,114,121,46,103,114,111,119]⟩,⟨#[105,51,50,46,99,111,110,115,116]⟩,⟨#[105,54,52,46,99,111,110,115,116]⟩,⟨#[]⟩,⟨#[]⟩,⟨#[105,51,50,46,101,113,122]⟩,⟨#[105,51,50,46,101,113]⟩,⟨#[105,51,50,46,110,101]⟩,⟨#[105,51,50,46,108,116,95,115]⟩,⟨#[105,51,50,46,108,116,95,117]⟩,⟨#[105,51,50,46,103,116,95,115]⟩,⟨#[105,51,50,46,103,116,95,117]⟩,⟨#[105,51,50,46,108,101,95,115]⟩,⟨#[105,51,50,46,108,101,95,117]⟩,⟨#[105,51,50,46,103,101,95,115]⟩,⟨#[105,51,50,46,103,101,95,117]⟩,⟨#[105,54,52,46,101,113,122]⟩,⟨#[105,54,52,46,101,113]⟩,⟨#[105,54,52,46,110,101]⟩,⟨#[105,54,52,46,108,116,95,115]⟩,⟨#[105,54,52,46,108,116,95,117]⟩,⟨#[105,54,52,46,103,116,95,115]⟩,⟨#[105,54,52,46,103,116,95,117]⟩,⟨#[105,54,52,46,108,101,95,115]⟩,⟨#[105,54,52,46,108,101,95,117]⟩,⟨#[105,54,52,46,103,101,95,115]⟩,⟨#[105,54,52,46,103,101,95,117]⟩,⟨#[]⟩,⟨#[]⟩,⟨#[]⟩,⟨#[]⟩,⟨#[]⟩,⟨#[]⟩,⟨#[]⟩,⟨#[]⟩,⟨#[]⟩,⟨#[]⟩,⟨#[]⟩,⟨#[]⟩,⟨#[105,51,50,46,99,108,122]⟩,⟨#[105,51,50,46,99,116,122]⟩,⟨#[105,51,50,46,112,111,112,99,110,116]⟩,⟨#[105,51,50,46,97,100,100]⟩,⟨#[105,51,50,46,115,117,98]⟩,⟨#[105,51,50,46,109,117,108]⟩,⟨#[105,51,50,46,100,105,118,95,115]⟩,⟨#[105,51,50,46,100,105,118,95,117]⟩,⟨#[105,51,50,46,114,101,109,95,115]⟩,⟨#[105,51,50,46,114,101,109,95,117]⟩,⟨#[105,51,50,46,97,110,100]⟩,⟨#[105,51,50,46,111,114]⟩,⟨#[105,51,50,46,120,111,114]⟩,⟨#[105,51,50,46,115,104,108]⟩,⟨#[105,51,50,46,115,104,114,95,115]⟩,⟨#[105,51,50,46,115,104,114,95,117]⟩,⟨#[105,51,50,46,114,111,116,108]⟩,⟨#[105,51,50,46,114,111,116,114]⟩,⟨#[105,54,52,46,99,108,122]⟩,⟨#[105,54,52,46,99,116,122]⟩,⟨#[105,54,52,46,112,111,112,99,110,116]⟩,⟨#[105,54,52,46,97,100,100]⟩,⟨#[105,54,52,46,115,117,98]⟩,⟨#[105,54,52,46,109,117,108]⟩,⟨#[105,54,52,46,100,105,118,95,115]⟩,⟨#[105,54,52,46,100,105,118,95,117]⟩,⟨#[105,54,52,46,114,101,109,95,115]⟩,⟨#[105,54,52,46,114,101,109,95,117]⟩,⟨#[105,54,52,46,97,110,100]⟩,⟨#[105,54,52,46,111,114]⟩,⟨#[105,54,52,46,120,111,114]⟩,⟨#[105,54,52,46,115,104,108]⟩,⟨#[105,54,52,46,115,104,114,95,115]⟩,⟨#[105,54,52,46,115,104,114,95,117]⟩,⟨#[105,54,52,46,114,111,116,108]⟩,⟨#[105,54,52,46,114,111,116,114]⟩,⟨#[]⟩,⟨#[]⟩,⟨#[]⟩,⟨#[]⟩,⟨#[]⟩,⟨#[]⟩,⟨#[]⟩,⟨#[]⟩,⟨#[]⟩,⟨#[]⟩,⟨#[]⟩,⟨#[]⟩,⟨#[]⟩,⟨#[]⟩,⟨#[]⟩,⟨#[]⟩,⟨#[]⟩,⟨#[]⟩,⟨#[]⟩,⟨#[]⟩,⟨#[]⟩,⟨#[]⟩,⟨#[]⟩,⟨#[]⟩,⟨#[]⟩,⟨#[]⟩,⟨#[]⟩,⟨#[]⟩,⟨#[105,51,50,46,119,114,97,112,95,105,54,52]⟩,⟨#[]⟩,⟨#[]⟩,⟨#[]⟩,⟨#[]⟩,⟨#[105,54,52,46,101,120,116,101,110,100,95,105,51,50,95,115]⟩,⟨#[105,54,52,46,101,120,116,101,110,100,95,105,51,50,95,117]⟩,⟨#[]⟩,⟨#[]⟩,⟨#[]⟩,⟨#[]⟩,⟨#[]⟩,⟨#[]⟩,⟨#[]⟩,⟨#[]⟩,⟨#[]⟩,⟨#[]⟩,⟨#[]⟩,⟨#[]⟩,⟨#[]⟩,⟨#[]⟩,⟨#[]⟩,⟨#[]⟩,⟨#[]⟩,⟨#[]⟩,⟨#[105,51,50,46,101,120,116,101,110,100,56,95,115]⟩,⟨#[105,51,50,46,101,120,116,101,110,100,49,54,95,115]⟩,⟨#[105,54,52,46,101,120,116,101,110,100,56,95,115]⟩,⟨#[105,54,52,46,101,120,116,101,110,100,49,54,95,115]⟩,⟨#[105,54,52,46,101,120,116,101,110,100,51,50,95,115]⟩]
def refForm (c:Int):Int :=
 if 2≤c∧c≤4 then 1 else if c=12∨c=13 then 2 else if c=14 then 3 else if c=16 then 4 else if c=17 then 5 else if 32≤c∧c≤34 then 6 else if c=35∨c=36 then 7
 else if 40≤c∧c≤62 then 8 else if c=63∨c=64∨c=64523 then 9 else if c=64522 then 10 else if c=65∨c=66 then 11 else 0
def refForeign (c:Int):Bool :=
 if c=28∨c=37∨c=38∨c=42∨c=43∨c=56∨c=57∨c=67∨c=68∨c=208∨c=209∨c=210∨c=253 then true
 else if (91≤c∧c≤102)∨(139≤c∧c≤166)∨(168≤c∧c≤171)∨(174≤c∧c≤191)∨(64512≤c∧c≤64521)∨(64524≤c∧c≤64529)then true else false
structure OpRow where
 code:Int
 name:ByteArray
 form:Int
 takes:ByteArray
 gives:ByteArray
structure OpSpan where
 first:Int
 many:Int
 group:Int
 bits:Int
 base:Int
def OpRow.D (r:OpRow):List Value:=[.int .i64 r.code,.string r.name,.int .i64 r.form,.string r.takes,.string r.gives]
def OpSpan.D (r:OpSpan):List Value:=[.int .i64 r.first,.int .i64 r.many,.int .i64 r.group,.int .i64 r.bits,.int .i64 r.base]
def strD (s:ByteArray):List Value:=[.string s]
def opRows1:List OpRow:=[
 ⟨0,⟨#[117,110,114,101,97,99,104,97,98,108,101]⟩,0,⟨#[]⟩,⟨#[]⟩⟩,
 ⟨1,⟨#[110,111,112]⟩,0,⟨#[]⟩,⟨#[]⟩⟩,
 ⟨2,⟨#[98,108,111,99,107]⟩,1,⟨#[]⟩,⟨#[]⟩⟩,
 ⟨3,⟨#[108,111,111,112]⟩,1,⟨#[]⟩,⟨#[]⟩⟩,
 ⟨4,⟨#[105,102]⟩,1,⟨#[]⟩,⟨#[]⟩⟩,
 ⟨5,⟨#[101,108,115,101]⟩,0,⟨#[]⟩,⟨#[]⟩⟩,
 ⟨11,⟨#[101,110,100]⟩,0,⟨#[]⟩,⟨#[]⟩⟩,
 ⟨12,⟨#[98,114]⟩,2,⟨#[]⟩,⟨#[]⟩⟩,
 ⟨13,⟨#[98,114,95,105,102]⟩,2,⟨#[]⟩,⟨#[]⟩⟩,
 ⟨14,⟨#[98,114,95,116,97,98,108,101]⟩,3,⟨#[]⟩,⟨#[]⟩⟩,
 ⟨15,⟨#[114,101,116,117,114,110]⟩,0,⟨#[]⟩,⟨#[]⟩⟩,
 ⟨16,⟨#[99,97,108,108]⟩,4,⟨#[]⟩,⟨#[]⟩⟩,
 ⟨17,⟨#[99,97,108,108,95,105,110,100,105,114,101,99,116]⟩,5,⟨#[]⟩,⟨#[]⟩⟩,
 ⟨26,⟨#[100,114,111,112]⟩,0,⟨#[]⟩,⟨#[]⟩⟩,
 ⟨27,⟨#[115,101,108,101,99,116]⟩,0,⟨#[]⟩,⟨#[]⟩⟩,
 ⟨32,⟨#[108,111,99,97,108,46,103,101,116]⟩,6,⟨#[]⟩,⟨#[]⟩⟩,
 ⟨33,⟨#[108,111,99,97,108,46,115,101,116]⟩,6,⟨#[]⟩,⟨#[]⟩⟩,
 ⟨34,⟨#[108,111,99,97,108,46,116,101,101]⟩,6,⟨#[]⟩,⟨#[]⟩⟩,
 ⟨35,⟨#[103,108,111,98,97,108,46,103,101,116]⟩,7,⟨#[]⟩,⟨#[]⟩⟩,
 ⟨36,⟨#[103,108,111,98,97,108,46,115,101,116]⟩,7,⟨#[]⟩,⟨#[]⟩⟩,
 ⟨40,⟨#[105,51,50,46,108,111,97,100]⟩,8,⟨#[105]⟩,⟨#[105]⟩⟩,
 ⟨41,⟨#[105,54,52,46,108,111,97,100]⟩,8,⟨#[105]⟩,⟨#[108]⟩⟩,
 ⟨44,⟨#[105,51,50,46,108,111,97,100,56,95,115]⟩,8,⟨#[105]⟩,⟨#[105]⟩⟩,
 ⟨45,⟨#[105,51,50,46,108,111,97,100,56,95,117]⟩,8,⟨#[105]⟩,⟨#[105]⟩⟩,
 ⟨46,⟨#[105,51,50,46,108,111,97,100,49,54,95,115]⟩,8,⟨#[105]⟩,⟨#[105]⟩⟩,
 ⟨47,⟨#[105,51,50,46,108,111,97,100,49,54,95,117]⟩,8,⟨#[105]⟩,⟨#[105]⟩⟩,
 ⟨48,⟨#[105,54,52,46,108,111,97,100,56,95,115]⟩,8,⟨#[105]⟩,⟨#[108]⟩⟩,
 ⟨49,⟨#[105,54,52,46,108,111,97,100,56,95,117]⟩,8,⟨#[105]⟩,⟨#[108]⟩⟩,
 ⟨50,⟨#[105,54,52,46,108,111,97,100,49,54,95,115]⟩,8,⟨#[105]⟩,⟨#[108]⟩⟩,
 ⟨51,⟨#[105,54,52,46,108,111,97,100,49,54,95,117]⟩,8,⟨#[105]⟩,⟨#[108]⟩⟩,
 ⟨52,⟨#[105,54,52,46,108,111,97,100,51,50,95,115]⟩,8,⟨#[105]⟩,⟨#[108]⟩⟩,
 ⟨53,⟨#[105,54,52,46,108,111,97,100,51,50,95,117]⟩,8,⟨#[105]⟩,⟨#[108]⟩⟩,
 ⟨54,⟨#[105,51,50,46,115,116,111,114,101]⟩,8,⟨#[105,105]⟩,⟨#[]⟩⟩,
 ⟨55,⟨#[105,54,52,46,115,116,111,114,101]⟩,8,⟨#[105,108]⟩,⟨#[]⟩⟩,
 ⟨58,⟨#[105,51,50,46,115,116,111,114,101,56]⟩,8,⟨#[105,105]⟩,⟨#[]⟩⟩,
 ⟨59,⟨#[105,51,50,46,115,116,111,114,101,49,54]⟩,8,⟨#[105,105]⟩,⟨#[]⟩⟩,
 ⟨60,⟨#[105,54,52,46,115,116,111,114,101,56]⟩,8,⟨#[105,108]⟩,⟨#[]⟩⟩,
 ⟨61,⟨#[105,54,52,46,115,116,111,114,101,49,54]⟩,8,⟨#[105,108]⟩,⟨#[]⟩⟩,
 ⟨62,⟨#[105,54,52,46,115,116,111,114,101,51,50]⟩,8,⟨#[105,108]⟩,⟨#[]⟩⟩,
 ⟨63,⟨#[109,101,109,111,114,121,46,115,105,122,101]⟩,9,⟨#[]⟩,⟨#[105]⟩⟩,
 ⟨64,⟨#[109,101,109,111,114,121,46,103,114,111,119]⟩,9,⟨#[105]⟩,⟨#[105]⟩⟩,
 ⟨65,⟨#[105,51,50,46,99,111,110,115,116]⟩,11,⟨#[]⟩,⟨#[105]⟩⟩,
 ⟨66,⟨#[105,54,52,46,99,111,110,115,116]⟩,11,⟨#[]⟩,⟨#[108]⟩⟩,
 ⟨167,⟨#[105,51,50,46,119,114,97,112,95,105,54,52]⟩,0,⟨#[108]⟩,⟨#[105]⟩⟩,
 ⟨172,⟨#[105,54,52,46,101,120,116,101,110,100,95,105,51,50,95,115]⟩,0,⟨#[105]⟩,⟨#[108]⟩⟩,
 ⟨173,⟨#[105,54,52,46,101,120,116,101,110,100,95,105,51,50,95,117]⟩,0,⟨#[105]⟩,⟨#[108]⟩⟩,
 ⟨192,⟨#[105,51,50,46,101,120,116,101,110,100,56,95,115]⟩,0,⟨#[105]⟩,⟨#[105]⟩⟩]
def opRows2:List OpRow:=[
 ⟨193,⟨#[105,51,50,46,101,120,116,101,110,100,49,54,95,115]⟩,0,⟨#[105]⟩,⟨#[105]⟩⟩,
 ⟨194,⟨#[105,54,52,46,101,120,116,101,110,100,56,95,115]⟩,0,⟨#[108]⟩,⟨#[108]⟩⟩,
 ⟨195,⟨#[105,54,52,46,101,120,116,101,110,100,49,54,95,115]⟩,0,⟨#[108]⟩,⟨#[108]⟩⟩,
 ⟨196,⟨#[105,54,52,46,101,120,116,101,110,100,51,50,95,115]⟩,0,⟨#[108]⟩,⟨#[108]⟩⟩,
 ⟨64522,⟨#[109,101,109,111,114,121,46,99,111,112,121]⟩,10,⟨#[105,105,105]⟩,⟨#[]⟩⟩,
 ⟨64523,⟨#[109,101,109,111,114,121,46,102,105,108,108]⟩,9,⟨#[105,105,105]⟩,⟨#[]⟩⟩]
def opSpans:List OpSpan:=[⟨69,1,2,32,3⟩,⟨70,10,1,32,0⟩,⟨80,1,2,64,3⟩,⟨81,10,1,64,0⟩,⟨103,3,2,32,0⟩,⟨106,15,0,32,0⟩,⟨121,3,2,64,0⟩,⟨124,15,0,64,0⟩]
def opBin:List ByteArray:=[⟨#[97,100,100]⟩,⟨#[115,117,98]⟩,⟨#[109,117,108]⟩,⟨#[100,105,118,95,115]⟩,⟨#[100,105,118,95,117]⟩,⟨#[114,101,109,95,115]⟩,⟨#[114,101,109,95,117]⟩,⟨#[97,110,100]⟩,⟨#[111,114]⟩,⟨#[120,111,114]⟩,⟨#[115,104,108]⟩,⟨#[115,104,114,95,115]⟩,⟨#[115,104,114,95,117]⟩,⟨#[114,111,116,108]⟩,⟨#[114,111,116,114]⟩]
def opTst:List ByteArray:=[⟨#[101,113]⟩,⟨#[110,101]⟩,⟨#[108,116,95,115]⟩,⟨#[108,116,95,117]⟩,⟨#[103,116,95,115]⟩,⟨#[103,116,95,117]⟩,⟨#[108,101,95,115]⟩,⟨#[108,101,95,117]⟩,⟨#[103,101,95,115]⟩,⟨#[103,101,95,117]⟩]
def opUna:List ByteArray:=[⟨#[99,108,122]⟩,⟨#[99,116,122]⟩,⟨#[112,111,112,99,110,116]⟩,⟨#[101,113,122]⟩]
def opFor:List (Int×Int):=[(28,28),(37,38),(42,43),(56,57),(67,68),(91,102),(139,166),(168,171),(174,191),(208,210),(253,253),(64512,64519),(64520,64521),(64524,64526),(64527,64529)]
theorem opRows2_tab:IsTab Tryz.prog 234 217 6 5:=⟨Tryz.underlying234,by kernel_rfl,by kernel_rfl,fun _=>by kernel_rfl⟩
set_option maxHeartbeats 400000 in
set_option maxRecDepth 100000 in
theorem late_any (w:World):Calls Tryz.prog 146 #[] w fun e w'=>e=.returned (.agg (opRows2.flatMap OpRow.D).toArray)∧Hid (Below w.heap.size w w'):=by
 have hb:Below w.heap.size w (w.alloc (.cells (opRows2.flatMap OpRow.D).toArray 234)):=(Below.refl _ _).alloc (Nat.le_refl _) _
 have hg:=heap_alloc_new w (.cells (opRows2.flatMap OpRow.D).toArray 234)
 obtain⟨z,hz,hzs,hsz⟩:=opRows2_tab.zero
 have hc:(opRows2.flatMap OpRow.D).toArray.size=6*5:=by rfl
 have h1:(opRows2.flatMap OpRow.D).toArray.all (·.oneCell')=true:=all_one (fun a u hu=>by simp[OpRow.D]at hu;rcases hu with rfl|rfl|rfl|rfl|rfl<;>rfl) _
 obtain⟨C,hC⟩:∃C,(opRows2.flatMap OpRow.D).toArray=C:=⟨_,rfl⟩
 rw[hC]at hb hg hc h1 ⊢
 have HZS:=hide (hzs.trans hc.symm);have HSZ:=hide (hsz.trans (congrArg some hc.symm));have HB:=hide hb;have HG:=hide hg;have H1:=hide h1
 clear hzs hsz hc hb hg h1
 have HC:=hide hC;clear hC
 go_enter Tryz.func146,Tryz.ntmps146
 go_wp2_with (first
  | (refine wpList_build_rows rfl 234 _ rfl opRows2_tab OpRow.D (fun _=>rfl) opRows2 rfl (by as_aux_lemma=>rfl) ?_;rw[HC.out])
  | (refine wpList_store_row rfl 234 _ _ rfl w.heap.size C rfl rfl 234 _ (heap_alloc_new w _) HSZ.out HZS.out H1.out ?_;rw[World.setRow_alloc_new]))
 refine bodyPost_ret (v:=.agg C) ?_ rfl ⟨rfl,HB.out⟩
 exact results_cell_row rfl _ _ _ _ _ _ _ rfl HG.out Tryz.underlying234 rfl HSZ.out
theorem opRows1_tab:IsTab Tryz.prog 232 217 47 5:=⟨Tryz.underlying232,by kernel_rfl,by kernel_rfl,fun _=>by kernel_rfl⟩
set_option maxHeartbeats 6400000 in
set_option maxRecDepth 100000 in
theorem rows_any (w:World):Calls Tryz.prog 145 #[] w fun e w'=>e=.returned (.agg (opRows1.flatMap OpRow.D).toArray)∧Hid (Below w.heap.size w w'):=by
 have hb:Below w.heap.size w (w.alloc (.cells (opRows1.flatMap OpRow.D).toArray 232)):=(Below.refl _ _).alloc (Nat.le_refl _) _
 have hg:=heap_alloc_new w (.cells (opRows1.flatMap OpRow.D).toArray 232)
 obtain⟨z,hz,hzs,hsz⟩:=opRows1_tab.zero
 have hc:(opRows1.flatMap OpRow.D).toArray.size=47*5:=by rfl
 have h1:(opRows1.flatMap OpRow.D).toArray.all (·.oneCell')=true:=all_one (fun a u hu=>by simp[OpRow.D]at hu;rcases hu with rfl|rfl|rfl|rfl|rfl<;>rfl) _
 obtain⟨C,hC⟩:∃C,(opRows1.flatMap OpRow.D).toArray=C:=⟨_,rfl⟩
 rw[hC]at hb hg hc h1 ⊢
 have HZS:=hide (hzs.trans hc.symm);have HSZ:=hide (hsz.trans (congrArg some hc.symm));have HB:=hide hb;have HG:=hide hg;have H1:=hide h1
 clear hzs hsz hc hb hg h1
 have HC:=hide hC;clear hC
 go_enter Tryz.func145,Tryz.ntmps145
 go_wp2_with (first
  | (refine wpList_build_rows rfl 232 _ rfl opRows1_tab OpRow.D (fun _=>rfl) opRows1 rfl (by as_aux_lemma=>rfl) ?_;rw[HC.out])
  | (refine wpList_store_row rfl 232 _ _ rfl w.heap.size C rfl rfl 232 _ (heap_alloc_new w _) HSZ.out HZS.out H1.out ?_;rw[World.setRow_alloc_new]))
 refine bodyPost_ret (v:=.agg C) ?_ rfl ⟨rfl,HB.out⟩
 exact results_cell_row rfl _ _ _ _ _ _ _ rfl HG.out Tryz.underlying232 rfl HSZ.out
theorem opSpans_tab:IsTab Tryz.prog 257 256 8 5:=⟨Tryz.underlying257,by kernel_rfl,by kernel_rfl,fun _=>by kernel_rfl⟩
set_option maxHeartbeats 400000 in
set_option maxRecDepth 100000 in
theorem spans_tab (w:World):Calls Tryz.prog 166 #[] w fun e w'=>e=.returned (.agg (opSpans.flatMap OpSpan.D).toArray)∧Hid (Below w.heap.size w w'):=by
 have hb:Below w.heap.size w (w.alloc (.cells (opSpans.flatMap OpSpan.D).toArray 257)):=(Below.refl _ _).alloc (Nat.le_refl _) _
 have hg:=heap_alloc_new w (.cells (opSpans.flatMap OpSpan.D).toArray 257)
 obtain⟨z,hz,hzs,hsz⟩:=opSpans_tab.zero
 have hc:(opSpans.flatMap OpSpan.D).toArray.size=8*5:=by rfl
 have h1:(opSpans.flatMap OpSpan.D).toArray.all (·.oneCell')=true:=all_one (fun a u hu=>by simp[OpSpan.D]at hu;rcases hu with rfl|rfl|rfl|rfl|rfl<;>rfl) _
 obtain⟨C,hC⟩:∃C,(opSpans.flatMap OpSpan.D).toArray=C:=⟨_,rfl⟩
 rw[hC]at hb hg hc h1 ⊢
 have HZS:=hide (hzs.trans hc.symm);have HSZ:=hide (hsz.trans (congrArg some hc.symm));have HB:=hide hb;have HG:=hide hg;have H1:=hide h1
 clear hzs hsz hc hb hg h1
 have HC:=hide hC;clear hC
 go_enter Tryz.func166,Tryz.ntmps166
 go_wp2_with (first
  | (refine wpList_build_rows rfl 257 _ rfl opSpans_tab OpSpan.D (fun _=>rfl) opSpans rfl (by as_aux_lemma=>rfl) ?_;rw[HC.out])
  | (refine wpList_store_row rfl 257 _ _ rfl w.heap.size C rfl rfl 257 _ (heap_alloc_new w _) HSZ.out HZS.out H1.out ?_;rw[World.setRow_alloc_new]))
 refine bodyPost_ret (v:=.agg C) ?_ rfl ⟨rfl,HB.out⟩
 exact results_cell_row rfl _ _ _ _ _ _ _ rfl HG.out Tryz.underlying257 rfl HSZ.out
set_option maxHeartbeats 400000 in
theorem bin_tab (w:World):Calls Tryz.prog 159 #[] w fun e w'=>e=.returned (.agg (opBin.flatMap strD).toArray)∧Hid (Below w.heap.size w w'):=by
 go_enter Tryz.func159,Tryz.ntmps159
 go_wp2_with fail
 refine bodyPost_ret (v:=.agg (opBin.flatMap strD).toArray) (by simp[results,Tryz.results159,go_sem,opBin,strD]) rfl ⟨rfl,?_⟩
 exact(Below.refl _ _).alloc (Nat.le_refl _) _
set_option maxHeartbeats 400000 in
theorem tst_tab (w:World):Calls Tryz.prog 160 #[] w fun e w'=>e=.returned (.agg (opTst.flatMap strD).toArray)∧Hid (Below w.heap.size w w'):=by
 go_enter Tryz.func160,Tryz.ntmps160
 go_wp2_with fail
 refine bodyPost_ret (v:=.agg (opTst.flatMap strD).toArray) (by simp[results,Tryz.results160,go_sem,opTst,strD]) rfl ⟨rfl,?_⟩
 exact(Below.refl _ _).alloc (Nat.le_refl _) _
set_option maxHeartbeats 400000 in
theorem una_tab (w:World):Calls Tryz.prog 161 #[] w fun e w'=>e=.returned (.agg (opUna.flatMap strD).toArray)∧Hid (Below w.heap.size w w'):=by
 go_enter Tryz.func161,Tryz.ntmps161
 go_wp2_with fail
 refine bodyPost_ret (v:=.agg (opUna.flatMap strD).toArray) (by simp[results,Tryz.results161,go_sem,opUna,strD]) rfl ⟨rfl,?_⟩
 exact(Below.refl _ _).alloc (Nat.le_refl _) _
def letT (c:UInt8):UInt8:=if c=108 then 126 else 127
def typesL (s:ByteArray):List UInt8:=s.data.toList.map letT
theorem typesL_len (s:ByteArray):(typesL s).length=s.size:=by simp[typesL]
theorem typesL_take (s:ByteArray) (k:Nat) (h:k<s.size):(typesL s).take (k+1)=(typesL s).take k++[letT s[k]]:=by
 rw[List.take_succ_eq_append_getElem (by rw[typesL_len];exact h)]
 simp[typesL]
 rfl
theorem opTy_elem:IsElem Tryz.prog 73 133 1 1:=IsElem.mk' Tryz.underlying73 (z:=.int .u8 0) (by kernel_rfl) rfl (by omega)
theorem Only.iterAt (w:World) (k:Nat) (s:ByteArray) (pos:Nat):Only [k] w (w.iterAt k s pos) :=
 ⟨rfl,rfl,rfl,by rw[Lib.iterAt_size];exact Nat.le_refl _,fun i hi hS=>Lib.iterAt_other w k i s pos (by simpa using hS)⟩
def TypesPost (s:ByteArray) (w:World) (e:Ending) (w':World):Prop :=
 ∃A c,e=.returned (.slice A s.size c)∧Hid (w'.ownsRow w.heap.size 133 1 (.slice A s.size c) s.size ((typesL s).map B))∧Hid (Below w.heap.size w w')
set_option maxHeartbeats 1600000 in
theorem opTypes_any (s:ByteArray) (w:World) (ha:Hid (∀i (h:i<s.size),(s[i]).toNat<128)) (hs:s.size≤1000) :
  Calls Tryz.prog 148 #[.string s] w (TypesPost s w):=by
 obtain⟨K,hK⟩:∃K,w.heap.size=K:=⟨_,rfl⟩
 have HIT:Hid ((w.alloc (.stringIter s 0)).heap[K]?=some (.stringIter s 0)):=by show _=_;rw[←hK];exact heap_alloc_new w _
 have HB0:Hid (Below K w (w.alloc (.stringIter s 0))):=by rw[←hK];exact(Below.refl _ _).alloc (Nat.le_refl _) _
 have HK:=hide hK;clear hK
 go_enter Tryz.func148,Tryz.ntmps148
 go_wp2_with fail
 rw[HK.out]
 go_loopw [3] (fun v w1=>∃pos:Nat,pos≤s.size∧Hid (w1.heap[K]?=some (.stringIter s pos))∧Hid (w1.ownsRow (K+1) 133 1 v pos (((typesL s).take pos).map B))∧Hid (Below K w w1)) (fun _ w1=>s.size-w1.iterPos K)
 case atStart=>exact⟨0,by omega,HIT,own_nil _ _ _ _,HB0⟩
 case round =>
  obtain⟨pos,hp,hit,ho,hb⟩:=hrel
  have hKlt:K<wr.heap.size:=(Array.getElem?_eq_some_iff.1 hit.out).1
  by_cases hlt:pos<s.size
  ·have hasc:=ha.out pos hlt
   obtain⟨c,hc⟩:∃c,s[pos]=c:=⟨_,rfl⟩
   have hnx:∀ty,(Instr.next (.pointer (some ⟨K,0,none⟩)) true ty).run Tryz.prog wr=.ok (.tuple #[.bool true,.int .i64 pos,.int .i32 (c.toNat:Int)]) (wr.iterAt K s (pos+1)):=by
    intro ty;rw[←hc];exact Lib.run_next_ascii_at wr K s pos _ hit.out hlt hasc
   have hnew:=hide (typesL_take s pos hlt)
   rw[hc]at hnew hasc
   have HC:=hide hc;clear hc
   have hit1:Hid ((wr.iterAt K s (pos+1)).heap[K]?=some (.stringIter s (pos+1))):=Lib.iterAt_heap wr K s pos (pos+1) hit.out
   have ho1:=hide (own_only3 ho.out (Only.iterAt wr K s (pos+1)) (fun g hg=>by have:=own_ge ho.out g hg;simp;omega))
   have hb1:Hid (Below K w (wr.iterAt K s (pos+1))):=Lib.below_iterAt hb.out (Nat.le_refl _) s (pos+1)
   have hsz:K+1≤(wr.iterAt K s (pos+1)).heap.size:=by rw[Lib.iterAt_size];omega
   have hroom:Room pos 1 1:=room_of (by omega) (by omega)
   obtain⟨W1,hW1⟩:∃W1,wr.iterAt K s (pos+1)=W1:=⟨_,rfl⟩
   rw[hW1]at hnx hit1 ho1 hb1 hsz
   clear hW1
   by_cases h108:c=108
   ·subst h108
    go_wp2_with (at_builtin;refine wpList_push rfl _ _ rfl (K+1) opTy_elem _ pos _ rfl W1 (.int .u8 126) 133 rfl ho1.out rfl rfl hroom hsz ?_;intro v' w3 ho3 hg3)
    have hit3:Hid (w3.heap[K]?=some (.stringIter s (pos+1))):=(hg3.by_.block K (by omega) (fun e=>by have:=own_ge ho1.out K e.symm;omega)).trans hit1.out
    have ho4:Hid (w3.ownsRow (K+1) 133 1 v' (pos+1) (((typesL s).take (pos+1)).map B)):=own_cast ho3 rfl (by rw[hnew.out,List.map_append];rfl)
    have hb3:Hid (Below K w w3):=hb1.out.trans ((hg3.below hsz (own_ge ho1.out)).mono (by omega))
    have hpos3:=iterPos_of hit3.out
    go_roundw
    case rel=>exact⟨pos+1,by omega,hit3,ho4,hb3⟩
    case measure=>rw[hpos3,iterPos_of hit.out];omega
   ·have f1:((c.toNat:Int)==108)=false:=by
     have:c.toNat≠108:=fun e=>h108 (UInt8.toNat_inj.1 e)
     simp;omega
    have hl:Hid (letT c=127):=by show _=_;unfold letT;rw[if_neg h108]
    clear h108
    go_wp2_with (at_builtin;refine wpList_push rfl _ _ rfl (K+1) opTy_elem _ pos _ rfl W1 (.int .u8 127) 133 rfl ho1.out rfl rfl hroom hsz ?_;intro v' w3 ho3 hg3)
    have hit3:Hid (w3.heap[K]?=some (.stringIter s (pos+1))):=(hg3.by_.block K (by omega) (fun e=>by have:=own_ge ho1.out K e.symm;omega)).trans hit1.out
    have ho4:Hid (w3.ownsRow (K+1) 133 1 v' (pos+1) (((typesL s).take (pos+1)).map B)):=own_cast ho3 rfl (by rw[hnew.out,List.map_append,hl.out];rfl)
    have hb3:Hid (Below K w w3):=hb1.out.trans ((hg3.below hsz (own_ge ho1.out)).mono (by omega))
    have hpos3:=iterPos_of hit3.out
    go_roundw
    case rel=>exact⟨pos+1,by omega,hit3,ho4,hb3⟩
    case measure=>rw[hpos3,iterPos_of hit.out];omega
  ·have hend:pos=s.size:=by omega
   subst hend
   have hnx:∀ty,(Instr.next (.pointer (some ⟨K,0,none⟩)) true ty).run Tryz.prog wr=_:=fun ty=>Lib.run_next_end_at (P:=Tryz.prog) wr K s s.size ty hit.out (by omega)
   obtain⟨A,c,rfl,_,_⟩:=own_form ho.out
   go_wp2_with fail
   go_ret
   refine⟨A,c,rfl,?_,?_⟩
   ·rw[HK.out]
    refine own_base (own_cast ho.out rfl ?_) (fun g hg=>by have:=own_ge ho.out g hg;omega)
    rw[List.take_of_length_le (by rw[typesL_len];omega)]
   ·rw[HK.out];exact hb.out
end Go.Proofs.YtomppgohoplemaaGreat
