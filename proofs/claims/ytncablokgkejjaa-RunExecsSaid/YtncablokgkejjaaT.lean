/-
  The numbers of the element types.
-/
import Derived.Test.YtncablokgkejjaaAbC
namespace Go.Abs.T
def ty_api_Ins : TypeId := 43
def ty_api_Leak : TypeId := 59
def ty_api_Outcome : TypeId := 77
def ty_api_State : TypeId := 26
def ty_bautalaw08_Case : TypeId := 72
def ty_bautaref05_Mem : TypeId := 39
def ty_bool : TypeId := 4
def ty_int : TypeId := 3
def ty_mem_Mem : TypeId := 89
def ty_string : TypeId := 9
def ty_thumb_part : TypeId := 117
def ty_thumb_shape : TypeId := 120
def ty_uint16 : TypeId := 45
def ty_uint32 : TypeId := 23
end Go.Abs.T
